import Derived.Test.YtolncjkfcmbieaaF0
import Derived.Test.YtolncjkfcmbieaaF9
import Derived.Test.YtolncjkfcmbieaaF33
import Derived.Test.YtolncjkfcmbieaaF39
namespace Go.Proofs.Ytolncjkfcmbieaa.P
open Go.RowKit Go.Proofs.YtolncjkfcmbieaaW.PrintWords Go.Proofs.YtolncjkfcmbieaaW.PrintLast Go.Proofs.YtolncjkfcmbieaaW.PrintMore
attribute [local go_sem] max2_int min2_int max_two min_two max_three min_three max_four min_four   -- for this text's walks alone
set_option linter.unusedVariables false
set_option linter.unusedSimpArgs false

def laws_szHelloS.f (l0 : List (S188)) (a1 : Int) : Option (Int) := if (wrap64 (a1 - (l0.length : Int))) < 0 then (some (-1)) else (some (wrap64 (a1 - (l0.length : Int))))
set_option maxHeartbeats 8000000 in
set_option maxRecDepth 100000 in
theorem laws_szHelloS.calls (A0 : Option Addr) (c0 : Nat) (l0 : List (S188)) (a1 : Int) (r : Int) (w : World) (hr0 : Kd.C k188 w A0 l0.length l0) (hc0 : l0.length ≤ c0) (h : laws_szHelloS.f l0 a1 = some r) :
  Calls Try.prog 85 #[.slice A0 l0.length c0, .int .i64 a1] w fun e w' => e = .returned (.int .i64 r) ∧ Drawn0 w w' := by
 have HR0 := Aside0.mk hr0
 have HC0 := Aside0.mk hc0
 clear hr0 hc0
 have H : (if (wrap64 (a1 - (l0.length : Int))) < 0 then (some (-1)) else (some (wrap64 (a1 - (l0.length : Int))))) = some r := h
 clear h
 by_cases c3 : (wrap64 (a1 - (l0.length : Int))) < 0
 ·rw [if_pos c3] at H
  have c3b0 : decide ((wrap64 (a1 - (l0.length : Int))) < 0) = true := decide_eq_true c3
  clear c3
  obtain rfl := Option.some.inj H
  go_enter Try.func85, Try.ntmps85
  go_wp2
  go_ret
  exact ⟨by first | rfl | (simp; done) | (simp [*]; done), by repeat (first | exact Drawn0.refl _ | apply Drawn0.step)⟩
 rw [if_neg c3] at H
 have c3b0 : decide ((wrap64 (a1 - (l0.length : Int))) < 0) = false := decide_eq_false c3
 clear c3
 obtain rfl := Option.some.inj H
 go_enter Try.func85, Try.ntmps85
 go_wp2
 go_ret
 exact ⟨by first | rfl | (simp; done) | (simp [*]; done), by repeat (first | exact Drawn0.refl _ | apply Drawn0.step)⟩

def laws_szPair.f (l0_0 : List Int) (l0_1 : List Int) (l0_2 : List (S188)) (a1 : Int) : Option (Int) := (laws_szIntS.f l0_0 a1).bind fun t365 => (if t365 < 0 then (some (-1)) else ((laws_szIntS.f l0_1 t365).bind fun t366 => (if t366 < 0 then (some (-1)) else ((laws_szHelloS.f l0_2 t366).bind fun t367 => (if t367 < 0 then (some (-1)) else (some t367))))))
set_option maxHeartbeats 8000000 in
set_option maxRecDepth 100000 in
theorem laws_szPair.calls (A0_0 : Option Addr) (c0_0 : Nat) (l0_0 : List Int) (A0_1 : Option Addr) (c0_1 : Nat) (l0_1 : List Int) (A0_2 : Option Addr) (c0_2 : Nat) (l0_2 : List (S188)) (a1 : Int) (r : Int) (w : World) (hr0_0 : Kd.C (Kd.int .i64) w A0_0 l0_0.length l0_0) (hc0_0 : l0_0.length ≤ c0_0) (hr0_1 : Kd.C (Kd.int .i64) w A0_1 l0_1.length l0_1) (hc0_1 : l0_1.length ≤ c0_1) (hr0_2 : Kd.C k188 w A0_2 l0_2.length l0_2) (hc0_2 : l0_2.length ≤ c0_2) (h : laws_szPair.f l0_0 l0_1 l0_2 a1 = some r) :
  Calls Try.prog 29 #[.agg #[.slice A0_0 l0_0.length c0_0, .slice A0_1 l0_1.length c0_1, .slice A0_2 l0_2.length c0_2], .int .i64 a1] w fun e w' => e = .returned (.int .i64 r) ∧ Below w.heap.size w w' := by
 have hu41 := Try.underlying41
 have HR0_0 := Aside0.mk hr0_0
 have HC0_0 := Aside0.mk hc0_0
 clear hr0_0 hc0_0
 have HR0_1 := Aside0.mk hr0_1
 have HC0_1 := Aside0.mk hc0_1
 clear hr0_1 hc0_1
 have HR0_2 := Aside0.mk hr0_2
 have HC0_2 := Aside0.mk hc0_2
 clear hr0_2 hc0_2
 have HB := Aside0.mk (Below.refl w.heap.size w)
 have H : ((laws_szIntS.f l0_0 a1).bind fun t365 => (if t365 < 0 then (some (-1)) else ((laws_szIntS.f l0_1 t365).bind fun t366 => (if t366 < 0 then (some (-1)) else ((laws_szHelloS.f l0_2 t366).bind fun t367 => (if t367 < 0 then (some (-1)) else (some t367))))))) = some r := h
 clear h
 replace H := Option.bind_eq_some_iff.mp H
 obtain ⟨t365, A30, H⟩ := H
 replace H : (if t365 < 0 then (some (-1)) else ((laws_szIntS.f l0_1 t365).bind fun t366 => (if t366 < 0 then (some (-1)) else ((laws_szHelloS.f l0_2 t366).bind fun t367 => (if t367 < 0 then (some (-1)) else (some t367)))))) = some r := H
 have A3 := Aside0.mk A30
 clear A30
 by_cases c4 : t365 < 0
 ·rw [if_pos c4] at H
  have c4b0 : decide (t365 < 0) = true := decide_eq_true c4
  clear c4
  obtain rfl := Option.some.inj H
  go_enter Try.func29, Try.ntmps29
  go_wp2_with (first | ((with_reducible refine gate_dst (N := 2) rfl ?_); refine box_event ?hg (N := 2) ?hd (cs := #[.slice A0_0 l0_0.length c0_0, .slice A0_1 l0_1.length c0_1, .slice A0_2 l0_2.length c0_2]) (t := 41) ?hr ?_; (case hd => rfl); (case hg => rfl); (case hr => first | (go_simp; done) | (go_simp; rfl)); intro gb364 hg w5 hbox hb; have BK364 := Aside0.mk (hbox); have GW364 := gw_ hg HB; have GE364 := gw_ hg HB; replace HB := bst_ HB hb; clear hb hbox hg; have hcz6_0 : w5.cell? ⟨gb364, 0, none⟩ = some (.slice A0_0 l0_0.length c0_0) := bc_ BK364 0; have hcz6_1 : w5.cell? ⟨gb364, 1, none⟩ = some (.slice A0_1 l0_1.length c0_1) := bc_ BK364 1; have hcz6_2 : w5.cell? ⟨gb364, 2, none⟩ = some (.slice A0_2 l0_2.length c0_2) := bc_ BK364 2; have hfz6_0 := blk_frozen BK364.out 0; have hfz6_1 := blk_frozen BK364.out 1; have hfz6_2 := blk_frozen BK364.out 2) | ((with_reducible refine gate_callee (f := 84) rfl ?_); refine goesL_ (some 8) rfl rfl Try.func84 (by kernel_rfl) rfl #[.slice A0_0 l0_0.length c0_0, .int .i64 a1] rfl tm_ ?_; (with_reducible refine (laws_szIntS.calls _ _ l0_0 a1 t365 _ ?side1 ?side2 A3.out).mono ?_); (case side1 => exact ca (Kd.C_below HR0_0.out HB.out)); (case side2 => exact HC0_0.out); rintro e w' ⟨rfl, ⟨nd, rfl⟩⟩; refine ⟨_, rfl, ?_⟩))
  go_ret
  exact ⟨by first | rfl | (simp [errW_none, errW_some] <;> rfl) | (simp [*, errW_none, errW_some] <;> rfl), by repeat (first | (with_reducible first | exact HB.out | apply below_alloc | apply pw_below_drewN | apply below_drew1 | refine below_set ?_ GE364.out) | exact HB.out)⟩
 rw [if_neg c4] at H
 have c4b0 : decide (t365 < 0) = false := decide_eq_false c4
 clear c4
 replace H := Option.bind_eq_some_iff.mp H
 obtain ⟨t366, A70, H⟩ := H
 replace H : (if t366 < 0 then (some (-1)) else ((laws_szHelloS.f l0_2 t366).bind fun t367 => (if t367 < 0 then (some (-1)) else (some t367)))) = some r := H
 have A7 := Aside0.mk A70
 clear A70
 by_cases c8 : t366 < 0
 ·rw [if_pos c8] at H
  have c8b0 : decide (t366 < 0) = true := decide_eq_true c8
  clear c8
  obtain rfl := Option.some.inj H
  go_enter Try.func29, Try.ntmps29
  go_wp2_with (first | ((with_reducible refine gate_dst (N := 2) rfl ?_); refine box_event ?hg (N := 2) ?hd (cs := #[.slice A0_0 l0_0.length c0_0, .slice A0_1 l0_1.length c0_1, .slice A0_2 l0_2.length c0_2]) (t := 41) ?hr ?_; (case hd => rfl); (case hg => rfl); (case hr => first | (go_simp; done) | (go_simp; rfl)); intro gb364 hg w9 hbox hb; have BK364 := Aside0.mk (hbox); have GW364 := gw_ hg HB; have GE364 := gw_ hg HB; replace HB := bst_ HB hb; clear hb hbox hg; have hcz10_0 : w9.cell? ⟨gb364, 0, none⟩ = some (.slice A0_0 l0_0.length c0_0) := bc_ BK364 0; have hcz10_1 : w9.cell? ⟨gb364, 1, none⟩ = some (.slice A0_1 l0_1.length c0_1) := bc_ BK364 1; have hcz10_2 : w9.cell? ⟨gb364, 2, none⟩ = some (.slice A0_2 l0_2.length c0_2) := bc_ BK364 2; have hfz10_0 := blk_frozen BK364.out 0; have hfz10_1 := blk_frozen BK364.out 1; have hfz10_2 := blk_frozen BK364.out 2) | ((with_reducible refine gate_callee (f := 84) rfl ?_); refine goesL_ (some 8) rfl rfl Try.func84 (by kernel_rfl) rfl #[.slice A0_0 l0_0.length c0_0, .int .i64 a1] rfl tm_ ?_; (with_reducible refine (laws_szIntS.calls _ _ l0_0 a1 t365 _ ?side1 ?side2 A3.out).mono ?_); (case side1 => exact ca (Kd.C_below HR0_0.out HB.out)); (case side2 => exact HC0_0.out); rintro e w' ⟨rfl, ⟨nd, rfl⟩⟩; refine ⟨_, rfl, ?_⟩) | ((with_reducible refine gate_callee (f := 84) rfl ?_); refine goesL_ (some 14) rfl rfl Try.func84 (by kernel_rfl) rfl #[.slice A0_1 l0_1.length c0_1, .int .i64 t365] rfl tm_ ?_; (with_reducible refine (laws_szIntS.calls _ _ l0_1 t365 t366 _ ?side1 ?side2 A7.out).mono ?_); (case side1 => exact ca (Kd.C_below HR0_1.out (hB HB))); (case side2 => exact HC0_1.out); rintro e w' ⟨rfl, ⟨nd, rfl⟩⟩; refine ⟨_, rfl, ?_⟩))
  go_ret
  exact ⟨by first | rfl | (simp [errW_none, errW_some] <;> rfl) | (simp [*, errW_none, errW_some] <;> rfl), by repeat (first | (with_reducible first | exact HB.out | apply below_alloc | apply pw_below_drewN | apply below_drew1 | refine below_set ?_ GE364.out) | exact HB.out)⟩
 rw [if_neg c8] at H
 have c8b0 : decide (t366 < 0) = false := decide_eq_false c8
 clear c8
 replace H := Option.bind_eq_some_iff.mp H
 obtain ⟨t367, A110, H⟩ := H
 replace H : (if t367 < 0 then (some (-1)) else (some t367)) = some r := H
 have A11 := Aside0.mk A110
 clear A110
 by_cases c12 : t367 < 0
 ·rw [if_pos c12] at H
  have c12b0 : decide (t367 < 0) = true := decide_eq_true c12
  clear c12
  obtain rfl := Option.some.inj H
  go_enter Try.func29, Try.ntmps29
  go_wp2_with (first | ((with_reducible refine gate_dst (N := 2) rfl ?_); refine box_event ?hg (N := 2) ?hd (cs := #[.slice A0_0 l0_0.length c0_0, .slice A0_1 l0_1.length c0_1, .slice A0_2 l0_2.length c0_2]) (t := 41) ?hr ?_; (case hd => rfl); (case hg => rfl); (case hr => first | (go_simp; done) | (go_simp; rfl)); intro gb364 hg w13 hbox hb; have BK364 := Aside0.mk (hbox); have GW364 := gw_ hg HB; have GE364 := gw_ hg HB; replace HB := bst_ HB hb; clear hb hbox hg; have hcz14_0 : w13.cell? ⟨gb364, 0, none⟩ = some (.slice A0_0 l0_0.length c0_0) := bc_ BK364 0; have hcz14_1 : w13.cell? ⟨gb364, 1, none⟩ = some (.slice A0_1 l0_1.length c0_1) := bc_ BK364 1; have hcz14_2 : w13.cell? ⟨gb364, 2, none⟩ = some (.slice A0_2 l0_2.length c0_2) := bc_ BK364 2; have hfz14_0 := blk_frozen BK364.out 0; have hfz14_1 := blk_frozen BK364.out 1; have hfz14_2 := blk_frozen BK364.out 2) | ((with_reducible refine gate_callee (f := 84) rfl ?_); refine goesL_ (some 8) rfl rfl Try.func84 (by kernel_rfl) rfl #[.slice A0_0 l0_0.length c0_0, .int .i64 a1] rfl tm_ ?_; (with_reducible refine (laws_szIntS.calls _ _ l0_0 a1 t365 _ ?side1 ?side2 A3.out).mono ?_); (case side1 => exact ca (Kd.C_below HR0_0.out HB.out)); (case side2 => exact HC0_0.out); rintro e w' ⟨rfl, ⟨nd, rfl⟩⟩; refine ⟨_, rfl, ?_⟩) | ((with_reducible refine gate_callee (f := 84) rfl ?_); refine goesL_ (some 14) rfl rfl Try.func84 (by kernel_rfl) rfl #[.slice A0_1 l0_1.length c0_1, .int .i64 t365] rfl tm_ ?_; (with_reducible refine (laws_szIntS.calls _ _ l0_1 t365 t366 _ ?side1 ?side2 A7.out).mono ?_); (case side1 => exact ca (Kd.C_below HR0_1.out (hB HB))); (case side2 => exact HC0_1.out); rintro e w' ⟨rfl, ⟨nd, rfl⟩⟩; refine ⟨_, rfl, ?_⟩) | ((with_reducible refine gate_callee (f := 85) rfl ?_); refine goesL_ (some 20) rfl rfl Try.func85 (by kernel_rfl) rfl #[.slice A0_2 l0_2.length c0_2, .int .i64 t366] rfl tm_ ?_; (with_reducible refine (laws_szHelloS.calls _ _ l0_2 t366 t367 _ ?side1 ?side2 A11.out).mono ?_); (case side1 => exact ca (Kd.C_below HR0_2.out (hB HB))); (case side2 => exact HC0_2.out); rintro e w' ⟨rfl, ⟨nd, rfl⟩⟩; refine ⟨_, rfl, ?_⟩))
  go_ret
  exact ⟨by first | rfl | (simp [errW_none, errW_some] <;> rfl) | (simp [*, errW_none, errW_some] <;> rfl), by repeat (first | (with_reducible first | exact HB.out | apply below_alloc | apply pw_below_drewN | apply below_drew1 | refine below_set ?_ GE364.out) | exact HB.out)⟩
 rw [if_neg c12] at H
 have c12b0 : decide (t367 < 0) = false := decide_eq_false c12
 clear c12
 obtain rfl := Option.some.inj H
 go_enter Try.func29, Try.ntmps29
 go_wp2_with (first | ((with_reducible refine gate_dst (N := 2) rfl ?_); refine box_event ?hg (N := 2) ?hd (cs := #[.slice A0_0 l0_0.length c0_0, .slice A0_1 l0_1.length c0_1, .slice A0_2 l0_2.length c0_2]) (t := 41) ?hr ?_; (case hd => rfl); (case hg => rfl); (case hr => first | (go_simp; done) | (go_simp; rfl)); intro gb364 hg w15 hbox hb; have BK364 := Aside0.mk (hbox); have GW364 := gw_ hg HB; have GE364 := gw_ hg HB; replace HB := bst_ HB hb; clear hb hbox hg; have hcz16_0 : w15.cell? ⟨gb364, 0, none⟩ = some (.slice A0_0 l0_0.length c0_0) := bc_ BK364 0; have hcz16_1 : w15.cell? ⟨gb364, 1, none⟩ = some (.slice A0_1 l0_1.length c0_1) := bc_ BK364 1; have hcz16_2 : w15.cell? ⟨gb364, 2, none⟩ = some (.slice A0_2 l0_2.length c0_2) := bc_ BK364 2; have hfz16_0 := blk_frozen BK364.out 0; have hfz16_1 := blk_frozen BK364.out 1; have hfz16_2 := blk_frozen BK364.out 2) | ((with_reducible refine gate_callee (f := 84) rfl ?_); refine goesL_ (some 8) rfl rfl Try.func84 (by kernel_rfl) rfl #[.slice A0_0 l0_0.length c0_0, .int .i64 a1] rfl tm_ ?_; (with_reducible refine (laws_szIntS.calls _ _ l0_0 a1 t365 _ ?side1 ?side2 A3.out).mono ?_); (case side1 => exact ca (Kd.C_below HR0_0.out HB.out)); (case side2 => exact HC0_0.out); rintro e w' ⟨rfl, ⟨nd, rfl⟩⟩; refine ⟨_, rfl, ?_⟩) | ((with_reducible refine gate_callee (f := 84) rfl ?_); refine goesL_ (some 14) rfl rfl Try.func84 (by kernel_rfl) rfl #[.slice A0_1 l0_1.length c0_1, .int .i64 t365] rfl tm_ ?_; (with_reducible refine (laws_szIntS.calls _ _ l0_1 t365 t366 _ ?side1 ?side2 A7.out).mono ?_); (case side1 => exact ca (Kd.C_below HR0_1.out (hB HB))); (case side2 => exact HC0_1.out); rintro e w' ⟨rfl, ⟨nd, rfl⟩⟩; refine ⟨_, rfl, ?_⟩) | ((with_reducible refine gate_callee (f := 85) rfl ?_); refine goesL_ (some 20) rfl rfl Try.func85 (by kernel_rfl) rfl #[.slice A0_2 l0_2.length c0_2, .int .i64 t366] rfl tm_ ?_; (with_reducible refine (laws_szHelloS.calls _ _ l0_2 t366 t367 _ ?side1 ?side2 A11.out).mono ?_); (case side1 => exact ca (Kd.C_below HR0_2.out (hB HB))); (case side2 => exact HC0_2.out); rintro e w' ⟨rfl, ⟨nd, rfl⟩⟩; refine ⟨_, rfl, ?_⟩))
 go_ret
 exact ⟨by first | rfl | (simp [errW_none, errW_some] <;> rfl) | (simp [*, errW_none, errW_some] <;> rfl), by repeat (first | (with_reducible first | exact HB.out | apply below_alloc | apply pw_below_drewN | apply below_drew1 | refine below_set ?_ GE364.out) | exact HB.out)⟩

mutual
def spec_GoodPair.j0 : Nat → Bool → List Int → List Int → List (S127) → Option (Bool)
 | 0, _, _, _, _ => none
 | k + 1, x22, x370000, x370001, x370002 => if x22 = true then (some false) else (spec_GoodPair.l0 k x370000 (x370000.length : Int) 0 x370000 x370001 x370002)
def spec_GoodPair.l0 : Nat → List Int → Int → Int → List Int → List Int → List (S127) → Option (Bool)
 | 0, _, _, _, _, _, _ => none
 | k + 1, x24, x25, x26, x370000, x370001, x370002 => if x26 < x25 then (if 0 ≤ x26 then (if x26 < (x24.length : Int) then ((spec_l1In.f (rd x24 x26) 0 2).bind fun t371 => (if t371 = true then (if x26 < (x370001.length : Int) then ((spec_l1In.f (rd x370001 x26) 0 3).bind fun t373 => (if t373 = true then (if (((rd x370001 x26) == 0) != ((rd x24 x26) == 0)) = true then (some false) else (spec_GoodPair.l0 k x24 x25 (wrap64 (x26 + 1)) x370000 x370001 x370002)) else (some false))) else (none)) else (some false))) else (none)) else (none)) else (spec_GoodPair.l1 k x370002 (x370002.length : Int) 0)
def spec_GoodPair.l1 : Nat → List (S127) → Int → Int → Option (Bool)
 | 0, _, _, _ => none
 | k + 1, x56, x57, x58 => if x58 < x57 then (if 0 ≤ x58 then (if x58 < (x56.length : Int) then ((spec_l3Side.f ((rd_T127 x56 x58).f0)).bind fun t377 => (if t377 = true then (spec_GoodPair.l1 k x56 x57 (wrap64 (x58 + 1))) else (some false))) else (none)) else (none)) else (some true)
end
def spec_GoodPair.f (k : Nat) (l0_0 : List Int) (l0_1 : List Int) (l0_2 : List (S127)) : Option (Bool) := if (l0_0.length : Int) = 2 then (if (l0_1.length : Int) = 2 then (spec_GoodPair.j0 k (decide ((l0_2.length : Int) > 12)) l0_0 l0_1 l0_2) else (spec_GoodPair.j0 k true l0_0 l0_1 l0_2)) else (spec_GoodPair.j0 k true l0_0 l0_1 l0_2)
theorem spec_GoodPair.mono_l : ∀ k, (∀ y0 y1 y2 y3, LeO (spec_GoodPair.j0 k y0 y1 y2 y3) (spec_GoodPair.j0 (k + 1) y0 y1 y2 y3)) ∧ (∀ y0 y1 y2 y3 y4 y5, LeO (spec_GoodPair.l0 k y0 y1 y2 y3 y4 y5) (spec_GoodPair.l0 (k + 1) y0 y1 y2 y3 y4 y5)) ∧ (∀ y0 y1 y2, LeO (spec_GoodPair.l1 k y0 y1 y2) (spec_GoodPair.l1 (k + 1) y0 y1 y2))
 | 0 => ⟨fun _ _ _ _ r h => by simp [spec_GoodPair.j0] at h, fun _ _ _ _ _ _ r h => by simp [spec_GoodPair.l0] at h, fun _ _ _ r h => by simp [spec_GoodPair.l1] at h⟩
 | k + 1 => by
  obtain ⟨ih0, ih1, ih2⟩ := spec_GoodPair.mono_l k
  refine ⟨?_, ?_, ?_⟩
  ·intro y0 y1 y2 y3
   unfold spec_GoodPair.j0
   repeat' first
   | (with_reducible exact ih0 _ _ _ _)
   | (with_reducible exact ih1 _ _ _ _ _ _)
   | (with_reducible exact ih2 _ _ _)
   | (with_reducible exact LeO.refl _)
   | (with_reducible exact LeO.none _)
   | (with_reducible refine LeO.ite ?_ ?_)
   | (with_reducible refine LeO.bind ?_ (fun _ => ?_))
  ·intro y0 y1 y2 y3 y4 y5
   unfold spec_GoodPair.l0
   repeat' first
   | (with_reducible exact ih0 _ _ _ _)
   | (with_reducible exact ih1 _ _ _ _ _ _)
   | (with_reducible exact ih2 _ _ _)
   | (with_reducible exact LeO.refl _)
   | (with_reducible exact LeO.none _)
   | (with_reducible refine LeO.ite ?_ ?_)
   | (with_reducible refine LeO.bind ?_ (fun _ => ?_))
  ·intro y0 y1 y2
   unfold spec_GoodPair.l1
   repeat' first
   | (with_reducible exact ih0 _ _ _ _)
   | (with_reducible exact ih1 _ _ _ _ _ _)
   | (with_reducible exact ih2 _ _ _)
   | (with_reducible exact LeO.refl _)
   | (with_reducible exact LeO.none _)
   | (with_reducible refine LeO.ite ?_ ?_)
   | (with_reducible refine LeO.bind ?_ (fun _ => ?_))
theorem spec_GoodPair.mono : ∀ a0 a1 a2 k, LeO (spec_GoodPair.f k a0 a1 a2) (spec_GoodPair.f (k + 1) a0 a1 a2) := by
 intro a0 a1 a2 k
 obtain ⟨ih0, ih1, ih2⟩ := spec_GoodPair.mono_l k
 unfold spec_GoodPair.f
 repeat' first
   | (with_reducible exact ih0 _ _ _ _)
   | (with_reducible exact ih1 _ _ _ _ _ _)
   | (with_reducible exact ih2 _ _ _)
   | (with_reducible exact LeO.refl _)
   | (with_reducible exact LeO.none _)
   | (with_reducible refine LeO.ite ?_ ?_)
   | (with_reducible refine LeO.bind ?_ (fun _ => ?_))
set_option maxHeartbeats 8000000 in
set_option maxRecDepth 100000 in
theorem spec_GoodPair.calls (k : Nat) (A0_0 : Option Addr) (c0_0 : Nat) (l0_0 : List Int) (A0_1 : Option Addr) (c0_1 : Nat) (l0_1 : List Int) (A0_2 : Option Addr) (c0_2 : Nat) (l0_2 : List (S127)) (r : Bool) (w : World) (hr0_0 : Kd.C (Kd.int .i64) w A0_0 l0_0.length l0_0) (hc0_0 : l0_0.length ≤ c0_0) (hr0_1 : Kd.C (Kd.int .i64) w A0_1 l0_1.length l0_1) (hc0_1 : l0_1.length ≤ c0_1) (hr0_2 : Kd.C k127 w A0_2 l0_2.length l0_2) (hc0_2 : l0_2.length ≤ c0_2) (h : spec_GoodPair.f k l0_0 l0_1 l0_2 = some r) :
  Calls Try.prog 86 #[.agg #[.slice A0_0 l0_0.length c0_0, .slice A0_1 l0_1.length c0_1, .slice A0_2 l0_2.length c0_2]] w fun e w' => e = .returned (.bool r) ∧ Below w.heap.size w w' := by
 have hu47 := Try.underlying47
 have hu127 := Try.underlying127
 have HR0_0 := Aside0.mk hr0_0
 have HC0_0 := Aside0.mk hc0_0
 clear hr0_0 hc0_0
 have HR0_1 := Aside0.mk hr0_1
 have HC0_1 := Aside0.mk hc0_1
 clear hr0_1 hc0_1
 have HR0_2 := Aside0.mk hr0_2
 have HC0_2 := Aside0.mk hc0_2
 clear hr0_2 hc0_2
 have HB := Aside0.mk (Below.refl w.heap.size w)
 have H : (if (l0_0.length : Int) = 2 then (if (l0_1.length : Int) = 2 then (spec_GoodPair.j0 k (decide ((l0_2.length : Int) > 12)) l0_0 l0_1 l0_2) else (spec_GoodPair.j0 k true l0_0 l0_1 l0_2)) else (spec_GoodPair.j0 k true l0_0 l0_1 l0_2)) = some r := h
 clear h
 have HC2 := Aside0.mk H
 clear H
 go_enter Try.func86, Try.ntmps86
 go_upto_region 1 with (first | ((with_reducible refine gate_dst (N := 1) rfl ?_); (try (refine gate_guard (by rfl) ?_; dsimp only)); refine box_event ?hg (N := 1) ?hd (cs := #[.slice A0_0 l0_0.length c0_0, .slice A0_1 l0_1.length c0_1, .slice A0_2 l0_2.length c0_2]) (t := 47) ?hr ?_; (case hd => rfl); (case hg => rfl); (case hr => first | (go_simp; done) | (go_simp; rfl)); intro gb369 hg w3 hbox hb; have BK369 := Aside0.mk (hbox); have GW369 := gw_ hg HB; have GE369 := gw_ hg HB; replace HB := bst_ HB hb; clear hb hbox hg))
 (try simp only [Act.put, List.setIfInBounds_toArray, List.set_cons_zero, List.set_cons_succ])
 go_cut [22] (fun v22 wc => ∃ (kq : Nat) (x22_1 : Bool), v22 = .bool x22_1 ∧ Aside0 (spec_GoodPair.j0 kq x22_1 l0_0 l0_1 l0_2 = some r) ∧ Aside0 (kq ≤ k) ∧ Aside0 (wc.heap[gb369]? = some (.cells #[(.slice A0_0 l0_0.length c0_0), (.slice A0_1 l0_1.length c0_1), (.slice A0_2 l0_2.length c0_2)] 47 (0, 0))) ∧ Aside0 (Below w.heap.size w wc))
 case first =>
  have H := HC2.out
  clear HC2
  by_cases c4 : (l0_0.length : Int) = 2
  rotate_left
  ·rw [if_neg c4] at H
   have c4b0 : ((l0_0.length : Int) == 2) = false := beq_eq_false_iff_ne.mpr c4
   have c4b1 : ((l0_0.length : Int) != 2) = true := bne_iff_ne.mpr c4
   (first | rw [c4b0] | (simp only [i64_w, i32_w]; rw [c4b0]) | skip)
   have H' := Aside0.mk H
   clear H
   have hcz8_0 : w3.cell? ⟨gb369, 0, none⟩ = some (.slice A0_0 l0_0.length c0_0) := bc_ BK369 0
   have hcz8_1 : w3.cell? ⟨gb369, 1, none⟩ = some (.slice A0_1 l0_1.length c0_1) := bc_ BK369 1
   have hcz8_2 : w3.cell? ⟨gb369, 2, none⟩ = some (.slice A0_2 l0_2.length c0_2) := bc_ BK369 2
   have hfz8_0 := blk_frozen BK369.out 0
   have hfz8_1 := blk_frozen BK369.out 1
   have hfz8_2 := blk_frozen BK369.out 2
   go_wp2
   go_meet
   case rel => exact ⟨_, (true), (by first | rfl | (simp; done) | (simp [*]; done)), H', ⟨by first | omega | exact Nat.le_refl _⟩, ⟨by (with_reducible repeat (first | refine blk_drewN ?_ _ | refine blk_drew ?_ | refine blk_alloc ?_ _)); exact BK369.out⟩, ⟨hB HB⟩⟩
  rw [if_pos c4] at H
  have c4b0 : ((l0_0.length : Int) == 2) = true := beq_iff_eq.mpr c4
  have c4b1 : ((l0_0.length : Int) != 2) = false := bne_eq_false_iff_eq.mpr c4
  clear c4
  (first | rw [c4b0] | (simp only [i64_w, i32_w]; rw [c4b0]) | skip)
  by_cases c5 : (l0_1.length : Int) = 2
  rotate_left
  ·rw [if_neg c5] at H
   have c5b0 : ((l0_1.length : Int) == 2) = false := beq_eq_false_iff_ne.mpr c5
   have c5b1 : ((l0_1.length : Int) != 2) = true := bne_iff_ne.mpr c5
   have H' := Aside0.mk H
   clear H
   have hcz7_0 : w3.cell? ⟨gb369, 0, none⟩ = some (.slice A0_0 l0_0.length c0_0) := bc_ BK369 0
   have hcz7_1 : w3.cell? ⟨gb369, 1, none⟩ = some (.slice A0_1 l0_1.length c0_1) := bc_ BK369 1
   have hcz7_2 : w3.cell? ⟨gb369, 2, none⟩ = some (.slice A0_2 l0_2.length c0_2) := bc_ BK369 2
   have hfz7_0 := blk_frozen BK369.out 0
   have hfz7_1 := blk_frozen BK369.out 1
   have hfz7_2 := blk_frozen BK369.out 2
   go_wp2
   go_meet
   case rel => exact ⟨_, (true), (by first | rfl | (simp; done) | (simp [*]; done)), H', ⟨by first | omega | exact Nat.le_refl _⟩, ⟨by (with_reducible repeat (first | refine blk_drewN ?_ _ | refine blk_drew ?_ | refine blk_alloc ?_ _)); exact BK369.out⟩, ⟨hB HB⟩⟩
  rw [if_pos c5] at H
  have c5b0 : ((l0_1.length : Int) == 2) = true := beq_iff_eq.mpr c5
  have c5b1 : ((l0_1.length : Int) != 2) = false := bne_eq_false_iff_eq.mpr c5
  clear c5
  have H' := Aside0.mk H
  clear H
  have hcz6_0 : w3.cell? ⟨gb369, 0, none⟩ = some (.slice A0_0 l0_0.length c0_0) := bc_ BK369 0
  have hcz6_1 : w3.cell? ⟨gb369, 1, none⟩ = some (.slice A0_1 l0_1.length c0_1) := bc_ BK369 1
  have hcz6_2 : w3.cell? ⟨gb369, 2, none⟩ = some (.slice A0_2 l0_2.length c0_2) := bc_ BK369 2
  have hfz6_0 := blk_frozen BK369.out 0
  have hfz6_1 := blk_frozen BK369.out 1
  have hfz6_2 := blk_frozen BK369.out 2
  go_wp2
  go_meet
  case rel => exact ⟨_, (decide ((l0_2.length : Int) > 12)), (by first | rfl | (simp; done) | (simp [*]; done)), H', ⟨by first | omega | exact Nat.le_refl _⟩, ⟨by (with_reducible repeat (first | refine blk_drewN ?_ _ | refine blk_drew ?_ | refine blk_alloc ?_ _)); exact BK369.out⟩, ⟨hB HB⟩⟩
 case rest =>
  clear HC2
  obtain ⟨kq, x22_1, rfl, HA, HJ1, BK369, HB⟩ := hcut
  cases kq with
  | zero => exact absurd HA.out (by simp [spec_GoodPair.j0])
  | succ kj1 =>
   have H := HA.out
   clear HA
   simp only [spec_GoodPair.j0] at H
   by_cases c9 : x22_1 = true
   ·subst c9
    rw [if_pos rfl] at H
    obtain rfl := Option.some.inj H
    go_wp2
    go_ret
    exact ⟨by first | rfl | (simp [errW_none, errW_some] <;> rfl) | (simp [*, errW_none, errW_some] <;> rfl), by repeat (first | (with_reducible first | exact HB.out | apply below_alloc | apply pw_below_drewN | apply below_drew1 | refine below_set ?_ GE369.out) | exact HB.out)⟩
   replace c9 := Bool.eq_false_iff.mpr c9
   subst c9
   rw [if_neg (show ¬ (false = true) by decide)] at H
   have H' := Aside0.mk H
   clear H
   have hcz10_0 : wc.cell? ⟨gb369, 0, none⟩ = some (.slice A0_0 l0_0.length c0_0) := bc_ BK369 0
   have hcz10_1 : wc.cell? ⟨gb369, 1, none⟩ = some (.slice A0_1 l0_1.length c0_1) := bc_ BK369 1
   have hcz10_2 : wc.cell? ⟨gb369, 2, none⟩ = some (.slice A0_2 l0_2.length c0_2) := bc_ BK369 2
   have hfz10_0 := blk_frozen BK369.out 0
   have hfz10_1 := blk_frozen BK369.out 1
   have hfz10_2 := blk_frozen BK369.out 2
   go_wp2
   go_loopg [26] kj1 (fun kq v26 w' => ∃ (x26_2 : Int), v26 = .int .i64 x26_2 ∧ Aside0 (spec_GoodPair.l0 kq l0_0 (l0_0.length : Int) x26_2 l0_0 l0_1 l0_2 = some r) ∧ Aside0 (kq ≤ kj1) ∧ Aside0 (w'.heap[gb369]? = some (.cells #[(.slice A0_0 l0_0.length c0_0), (.slice A0_1 l0_1.length c0_1), (.slice A0_2 l0_2.length c0_2)] 47 (0, 0))) ∧ Aside0 (Below w.heap.size w w'))
   case atStart => exact ⟨(0), (by first | rfl | (simp; done) | (simp [*]; done)), H', ⟨Nat.le_refl _⟩, ⟨by (with_reducible repeat (first | refine blk_drewN ?_ _ | refine blk_drew ?_ | refine blk_alloc ?_ _)); exact BK369.out⟩, ⟨hB HB⟩⟩
   case round =>
    clear H'
    try clear c9
    try clear hcz10_0
    try clear hcz10_1
    try clear hcz10_2
    try clear hfz10_0
    try clear hfz10_1
    try clear hfz10_2
    obtain ⟨x26_2, rfl, HA, HK2, BK369, HB⟩ := hrel
    cases gk with
    | zero => exact absurd HA.out (by simp [spec_GoodPair.l0])
    | succ k2 =>
     have H := HA.out
     clear HA
     simp only [spec_GoodPair.l0] at H
     by_cases c11 : x26_2 < (l0_0.length : Int)
     rotate_left
     ·rw [if_neg c11] at H
      have c11b0 : decide (x26_2 < (l0_0.length : Int)) = false := decide_eq_false c11
      clear c11
      have H' := Aside0.mk H
      clear H
      have hcz23_0 : wr.cell? ⟨gb369, 0, none⟩ = some (.slice A0_0 l0_0.length c0_0) := bc_ BK369 0
      have hcz23_1 : wr.cell? ⟨gb369, 1, none⟩ = some (.slice A0_1 l0_1.length c0_1) := bc_ BK369 1
      have hcz23_2 : wr.cell? ⟨gb369, 2, none⟩ = some (.slice A0_2 l0_2.length c0_2) := bc_ BK369 2
      have hfz23_0 := blk_frozen BK369.out 0
      have hfz23_1 := blk_frozen BK369.out 1
      have hfz23_2 := blk_frozen BK369.out 2
      go_wp2
      go_loopg [58] k2 (fun kq v58 w' => ∃ (x58_3 : Int), v58 = .int .i64 x58_3 ∧ Aside0 (spec_GoodPair.l1 kq l0_2 (l0_2.length : Int) x58_3 = some r) ∧ Aside0 (kq ≤ k2) ∧ Aside0 (w'.heap[gb369]? = some (.cells #[(.slice A0_0 l0_0.length c0_0), (.slice A0_1 l0_1.length c0_1), (.slice A0_2 l0_2.length c0_2)] 47 (0, 0))) ∧ Aside0 (Below w.heap.size w w'))
      case atStart => exact ⟨(0), (by first | rfl | (simp; done) | (simp [*]; done)), H', ⟨Nat.le_refl _⟩, ⟨by (with_reducible repeat (first | refine blk_drewN ?_ _ | refine blk_drew ?_ | refine blk_alloc ?_ _)); exact BK369.out⟩, ⟨hB HB⟩⟩
      case round =>
       clear H'
       try clear c9
       try clear c11
       try clear c11b0
       try clear hcz10_0
       try clear hcz10_1
       try clear hcz10_2
       try clear hcz23_0
       try clear hcz23_1
       try clear hcz23_2
       try clear hfz10_0
       try clear hfz10_1
       try clear hfz10_2
       try clear hfz23_0
       try clear hfz23_1
       try clear hfz23_2
       obtain ⟨x58_3, rfl, HA, HK3, BK369, HB⟩ := hrel
       cases gk with
       | zero => exact absurd HA.out (by simp [spec_GoodPair.l1])
       | succ k3 =>
        have H := HA.out
        clear HA
        simp only [spec_GoodPair.l1] at H
        by_cases c24 : x58_3 < (l0_2.length : Int)
        rotate_left
        ·rw [if_neg c24] at H
         have c24b0 : decide (x58_3 < (l0_2.length : Int)) = false := decide_eq_false c24
         clear c24
         obtain rfl := Option.some.inj H
         go_wp2
         go_ret
         exact ⟨by first | rfl | (simp [errW_none, errW_some] <;> rfl) | (simp [*, errW_none, errW_some] <;> rfl), by repeat (first | (with_reducible first | exact HB.out | apply below_alloc | apply pw_below_drewN | apply below_drew1 | refine below_set ?_ GE369.out) | exact HB.out)⟩
        rw [if_pos c24] at H
        have c24b0 : decide (x58_3 < (l0_2.length : Int)) = true := decide_eq_true c24
        clear c24
        by_cases c25 : 0 ≤ x58_3
        rotate_left
        ·rw [if_neg c25] at H
         exact absurd H (by simp)
        rw [if_pos c25] at H
        have c25b0 : decide (0 ≤ x58_3) = true := decide_eq_true c25
        clear c25
        by_cases c26 : x58_3 < (l0_2.length : Int)
        rotate_left
        ·rw [if_neg c26] at H
         exact absurd H (by simp)
        rw [if_pos c26] at H
        have c26b0 : decide (x58_3 < (l0_2.length : Int)) = true := decide_eq_true c26
        clear c26
        replace H := Option.bind_eq_some_iff.mp H
        obtain ⟨t377, A270, H⟩ := H
        replace H : (if t377 = true then (spec_GoodPair.l1 k3 l0_2 (l0_2.length : Int) (wrap64 (x58_3 + 1))) else (some false)) = some r := H
        have A27 := Aside0.mk A270
        clear A270
        by_cases c28 : t377 = true
        rotate_left
        ·replace c28 := Bool.eq_false_iff.mpr c28
         subst c28
         rw [if_neg (show ¬ (false = true) by decide)] at H
         obtain rfl := Option.some.inj H
         have p375 : 0 ≤ (x58_3 : Int) := of_decide_eq_true (by first | (with_reducible assumption) | assumption)
         have q375 : x58_3 < (l0_2.length : Int) := of_decide_eq_true (by first | (with_reducible assumption) | assumption)
         obtain ⟨ad375, e375, hx375_0, hx375_1⟩ := at_T127 HR0_2.out x58_3 p375 q375
         cases e375
         replace hx375_0 := (HB.out.cell (World.block_lt_of_cell? w _ hx375_0)).trans hx375_0
         replace hx375_1 := (HB.out.cell (World.block_lt_of_cell? w _ hx375_1)).trans hx375_1
         replace p375 := eq_true p375
         replace q375 := eq_true q375
         go_wp2_with (first | ((with_reducible refine gate_dst (N := 6) rfl ?_); (try (refine gate_guard (by rfl) ?_; dsimp only)); refine box_event ?hg (N := 6) ?hd (cs := #[.int .i64 0, .bool false]) (t := 127) ?hr ?_; (case hd => rfl); (case hg => rfl); (case hr => first | (go_simp; done) | (go_simp; rfl)); intro gb376 hg w32 hbox hb; have BK376 := Aside0.mk (hbox); have GW376 := gw_ hg HB; have GE376 := gw_ hg HB; have NB369_376 := nl_ hg BK369; have NB376_369 := ng_ hg BK369; replace BK369 := bb_ BK369 hb; replace HB := bst_ HB hb; clear hb hbox hg; have hnb33 := NB376_369.out; have hnc33 := NB369_376.out; have hcz34_0 : w32.cell? ⟨gb376, 0, none⟩ = some (.int .i64 0) := bc_ BK376 0; have hcz34_1 : w32.cell? ⟨gb376, 1, none⟩ = some (.bool false) := bc_ BK376 1; have hfz34_0 := blk_frozen BK376.out 0; have hfz34_1 := blk_frozen BK376.out 1) | ((with_reducible refine gate_callee (f := 155) rfl ?_); refine goesL_ (some 64) rfl rfl Try.func155 (by kernel_rfl) rfl #[.int .i64 ((rd_T127 l0_2 x58_3).f0)] rfl tm_ ?_; (with_reducible refine (spec_l3Side.calls ((rd_T127 l0_2 x58_3).f0) false _ A27.out).mono ?_); rintro e w' ⟨rfl, ⟨nd, rfl⟩⟩; refine ⟨_, rfl, ?_⟩))
         go_ret
         exact ⟨by first | rfl | (simp [errW_none, errW_some] <;> rfl) | (simp [*, errW_none, errW_some] <;> rfl), by repeat (first | (with_reducible first | exact HB.out | apply below_alloc | apply pw_below_drewN | apply below_drew1 | refine below_set ?_ GE369.out | refine below_set ?_ GE376.out) | exact HB.out)⟩
        subst c28
        rw [if_pos rfl] at H
        have H' := Aside0.mk H
        clear H
        have p375 : 0 ≤ (x58_3 : Int) := of_decide_eq_true (by first | (with_reducible assumption) | assumption)
        have q375 : x58_3 < (l0_2.length : Int) := of_decide_eq_true (by first | (with_reducible assumption) | assumption)
        obtain ⟨ad375, e375, hx375_0, hx375_1⟩ := at_T127 HR0_2.out x58_3 p375 q375
        cases e375
        replace hx375_0 := (HB.out.cell (World.block_lt_of_cell? w _ hx375_0)).trans hx375_0
        replace hx375_1 := (HB.out.cell (World.block_lt_of_cell? w _ hx375_1)).trans hx375_1
        replace p375 := eq_true p375
        replace q375 := eq_true q375
        go_wp2_with (first | ((with_reducible refine gate_dst (N := 6) rfl ?_); (try (refine gate_guard (by rfl) ?_; dsimp only)); refine box_event ?hg (N := 6) ?hd (cs := #[.int .i64 0, .bool false]) (t := 127) ?hr ?_; (case hd => rfl); (case hg => rfl); (case hr => first | (go_simp; done) | (go_simp; rfl)); intro gb376 hg w29 hbox hb; have BK376 := Aside0.mk (hbox); have GW376 := gw_ hg HB; have GE376 := gw_ hg HB; have NB369_376 := nl_ hg BK369; have NB376_369 := ng_ hg BK369; replace BK369 := bb_ BK369 hb; replace HB := bst_ HB hb; clear hb hbox hg; have hnb30 := NB376_369.out; have hnc30 := NB369_376.out; have hcz31_0 : w29.cell? ⟨gb376, 0, none⟩ = some (.int .i64 0) := bc_ BK376 0; have hcz31_1 : w29.cell? ⟨gb376, 1, none⟩ = some (.bool false) := bc_ BK376 1; have hfz31_0 := blk_frozen BK376.out 0; have hfz31_1 := blk_frozen BK376.out 1) | ((with_reducible refine gate_callee (f := 155) rfl ?_); refine goesL_ (some 64) rfl rfl Try.func155 (by kernel_rfl) rfl #[.int .i64 ((rd_T127 l0_2 x58_3).f0)] rfl tm_ ?_; (with_reducible refine (spec_l3Side.calls ((rd_T127 l0_2 x58_3).f0) true _ A27.out).mono ?_); rintro e w' ⟨rfl, ⟨nd, rfl⟩⟩; refine ⟨_, rfl, ?_⟩))
        go_roundg k3
        case measure => have := HJ1.out; have := HK2.out; have := HK3.out; omega
        case rel => exact ⟨(wrap64 (x58_3 + 1)), (by first | rfl | (simp; done) | (simp [*]; done)), H', ⟨by have := HJ1.out; have := HK2.out; have := HK3.out; omega⟩, ⟨by (with_reducible repeat (first | refine blk_drewN ?_ _ | refine blk_drew ?_ | refine blk_alloc ?_ _)); refine blk_far ?_ NB369_376.out _; (with_reducible repeat (first | refine blk_drewN ?_ _ | refine blk_drew ?_ | refine blk_alloc ?_ _)); refine blk_far ?_ NB369_376.out _; (with_reducible repeat (first | refine blk_drewN ?_ _ | refine blk_drew ?_ | refine blk_alloc ?_ _)); exact BK369.out⟩, ⟨hB HB⟩⟩
     rw [if_pos c11] at H
     have c11b0 : decide (x26_2 < (l0_0.length : Int)) = true := decide_eq_true c11
     clear c11
     by_cases c12 : 0 ≤ x26_2
     rotate_left
     ·rw [if_neg c12] at H
      exact absurd H (by simp)
     rw [if_pos c12] at H
     have c12b0 : decide (0 ≤ x26_2) = true := decide_eq_true c12
     clear c12
     by_cases c13 : x26_2 < (l0_0.length : Int)
     rotate_left
     ·rw [if_neg c13] at H
      exact absurd H (by simp)
     rw [if_pos c13] at H
     have c13b0 : decide (x26_2 < (l0_0.length : Int)) = true := decide_eq_true c13
     clear c13
     replace H := Option.bind_eq_some_iff.mp H
     obtain ⟨t371, A140, H⟩ := H
     replace H : (if t371 = true then (if x26_2 < (l0_1.length : Int) then ((spec_l1In.f (rd l0_1 x26_2) 0 3).bind fun t373 => (if t373 = true then (if (((rd l0_1 x26_2) == 0) != ((rd l0_0 x26_2) == 0)) = true then (some false) else (spec_GoodPair.l0 k2 l0_0 (l0_0.length : Int) (wrap64 (x26_2 + 1)) l0_0 l0_1 l0_2)) else (some false))) else (none)) else (some false)) = some r := H
     have A14 := Aside0.mk A140
     clear A140
     by_cases c15 : t371 = true
     rotate_left
     ·replace c15 := Bool.eq_false_iff.mpr c15
      subst c15
      rw [if_neg (show ¬ (false = true) by decide)] at H
      obtain rfl := Option.some.inj H
      have p370 : 0 ≤ (x26_2 : Int) := of_decide_eq_true (by first | (with_reducible assumption) | assumption)
      have q370 : x26_2 < (l0_0.length : Int) := of_decide_eq_true (by first | (with_reducible assumption) | assumption)
      obtain ⟨ad370, e370, hx370_0⟩ := Kd.at_int HR0_0.out x26_2 p370 q370
      cases e370
      replace hx370_0 := (HB.out.cell (World.block_lt_of_cell? w _ hx370_0)).trans hx370_0
      replace p370 := eq_true p370
      replace q370 := eq_true q370
      go_wp2_with (first | ((with_reducible refine gate_callee (f := 108) rfl ?_); refine goesL_ (some 32) rfl rfl Try.func108 (by kernel_rfl) rfl #[.int .i64 (rd l0_0 x26_2), .int .i64 0, .int .i64 2] rfl tm_ ?_; (with_reducible refine (spec_l1In.calls (rd l0_0 x26_2) 0 2 false _ A14.out).mono ?_); rintro e w' ⟨rfl, ⟨nd, rfl⟩⟩; refine ⟨_, rfl, ?_⟩))
      go_ret
      exact ⟨by first | rfl | (simp [errW_none, errW_some] <;> rfl) | (simp [*, errW_none, errW_some] <;> rfl), by repeat (first | (with_reducible first | exact HB.out | apply below_alloc | apply pw_below_drewN | apply below_drew1 | refine below_set ?_ GE369.out) | exact HB.out)⟩
     subst c15
     rw [if_pos rfl] at H
     by_cases c16 : x26_2 < (l0_1.length : Int)
     rotate_left
     ·rw [if_neg c16] at H
      exact absurd H (by simp)
     rw [if_pos c16] at H
     have c16b0 : decide (x26_2 < (l0_1.length : Int)) = true := decide_eq_true c16
     clear c16
     replace H := Option.bind_eq_some_iff.mp H
     obtain ⟨t373, A170, H⟩ := H
     replace H : (if t373 = true then (if (((rd l0_1 x26_2) == 0) != ((rd l0_0 x26_2) == 0)) = true then (some false) else (spec_GoodPair.l0 k2 l0_0 (l0_0.length : Int) (wrap64 (x26_2 + 1)) l0_0 l0_1 l0_2)) else (some false)) = some r := H
     have A17 := Aside0.mk A170
     clear A170
     by_cases c18 : t373 = true
     rotate_left
     ·replace c18 := Bool.eq_false_iff.mpr c18
      subst c18
      rw [if_neg (show ¬ (false = true) by decide)] at H
      obtain rfl := Option.some.inj H
      have p370 : 0 ≤ (x26_2 : Int) := of_decide_eq_true (by first | (with_reducible assumption) | assumption)
      have q370 : x26_2 < (l0_0.length : Int) := of_decide_eq_true (by first | (with_reducible assumption) | assumption)
      obtain ⟨ad370, e370, hx370_0⟩ := Kd.at_int HR0_0.out x26_2 p370 q370
      cases e370
      replace hx370_0 := (HB.out.cell (World.block_lt_of_cell? w _ hx370_0)).trans hx370_0
      replace p370 := eq_true p370
      replace q370 := eq_true q370
      go_wp2_with (first | ((with_reducible refine gate_callee (f := 108) rfl ?_); refine goesL_ (some 32) rfl rfl Try.func108 (by kernel_rfl) rfl #[.int .i64 (rd l0_0 x26_2), .int .i64 0, .int .i64 2] rfl tm_ ?_; (with_reducible refine (spec_l1In.calls (rd l0_0 x26_2) 0 2 true _ A14.out).mono ?_); rintro e w' ⟨rfl, ⟨nd, rfl⟩⟩; refine ⟨_, rfl, ?_⟩; have hcz22_0 : wr.cell? ⟨gb369, 0, none⟩ = some (.slice (some ad370) l0_0.length c0_0) := bc_ BK369 0; have hcz22_1 : wr.cell? ⟨gb369, 1, none⟩ = some (.slice A0_1 l0_1.length c0_1) := bc_ BK369 1; have hcz22_2 : wr.cell? ⟨gb369, 2, none⟩ = some (.slice A0_2 l0_2.length c0_2) := bc_ BK369 2; have hfz22_0 := blk_frozen BK369.out 0; have hfz22_1 := blk_frozen BK369.out 1; have hfz22_2 := blk_frozen BK369.out 2; have p372 : 0 ≤ (x26_2 : Int) := of_decide_eq_true (by first | (with_reducible assumption) | assumption); have q372 : x26_2 < (l0_1.length : Int) := of_decide_eq_true (by first | (with_reducible assumption) | assumption); obtain ⟨ad372, e372, hx372_0⟩ := Kd.at_int HR0_1.out x26_2 p372 q372; cases e372; replace hx372_0 := (HB.out.cell (World.block_lt_of_cell? w _ hx372_0)).trans hx372_0; replace p372 := eq_true p372; replace q372 := eq_true q372) | (go_at_call 108; (with_reducible refine (spec_l1In.calls (rd l0_1 x26_2) 0 3 false _ A17.out).mono ?_); rintro e w' ⟨rfl, ⟨nd, rfl⟩⟩))
      go_ret
      exact ⟨by first | rfl | (simp [errW_none, errW_some] <;> rfl) | (simp [*, errW_none, errW_some] <;> rfl), by repeat (first | (with_reducible first | exact HB.out | apply below_alloc | apply pw_below_drewN | apply below_drew1 | refine below_set ?_ GE369.out) | exact HB.out)⟩
     subst c18
     rw [if_pos rfl] at H
     by_cases c19 : (((rd l0_1 x26_2) == 0) != ((rd l0_0 x26_2) == 0)) = true
     rotate_left
     ·rw [if_neg c19] at H
      have c19b0 : (((rd l0_1 x26_2) == 0) != ((rd l0_0 x26_2) == 0)) = false := by simpa using c19
      (try (have c19b1 : decide (((rd l0_1 x26_2) == 0) = ((rd l0_0 x26_2) == 0)) = true := by simpa using c19))
      (try (have c19b2 : (((rd l0_1 x26_2) == 0) == ((rd l0_0 x26_2) == 0)) = true := by simpa using c19))
      clear c19
      have H' := Aside0.mk H
      clear H
      have p370 : 0 ≤ (x26_2 : Int) := of_decide_eq_true (by first | (with_reducible assumption) | assumption)
      have q370 : x26_2 < (l0_0.length : Int) := of_decide_eq_true (by first | (with_reducible assumption) | assumption)
      obtain ⟨ad370, e370, hx370_0⟩ := Kd.at_int HR0_0.out x26_2 p370 q370
      cases e370
      replace hx370_0 := (HB.out.cell (World.block_lt_of_cell? w _ hx370_0)).trans hx370_0
      replace p370 := eq_true p370
      replace q370 := eq_true q370
      go_wp2_with (first | ((with_reducible refine gate_callee (f := 108) rfl ?_); refine goesL_ (some 32) rfl rfl Try.func108 (by kernel_rfl) rfl #[.int .i64 (rd l0_0 x26_2), .int .i64 0, .int .i64 2] rfl tm_ ?_; (with_reducible refine (spec_l1In.calls (rd l0_0 x26_2) 0 2 true _ A14.out).mono ?_); rintro e w' ⟨rfl, ⟨nd, rfl⟩⟩; refine ⟨_, rfl, ?_⟩; have hcz21_0 : wr.cell? ⟨gb369, 0, none⟩ = some (.slice (some ad370) l0_0.length c0_0) := bc_ BK369 0; have hcz21_1 : wr.cell? ⟨gb369, 1, none⟩ = some (.slice A0_1 l0_1.length c0_1) := bc_ BK369 1; have hcz21_2 : wr.cell? ⟨gb369, 2, none⟩ = some (.slice A0_2 l0_2.length c0_2) := bc_ BK369 2; have hfz21_0 := blk_frozen BK369.out 0; have hfz21_1 := blk_frozen BK369.out 1; have hfz21_2 := blk_frozen BK369.out 2; have p372 : 0 ≤ (x26_2 : Int) := of_decide_eq_true (by first | (with_reducible assumption) | assumption); have q372 : x26_2 < (l0_1.length : Int) := of_decide_eq_true (by first | (with_reducible assumption) | assumption); obtain ⟨ad372, e372, hx372_0⟩ := Kd.at_int HR0_1.out x26_2 p372 q372; cases e372; replace hx372_0 := (HB.out.cell (World.block_lt_of_cell? w _ hx372_0)).trans hx372_0; replace p372 := eq_true p372; replace q372 := eq_true q372) | (go_at_call 108; (with_reducible refine (spec_l1In.calls (rd l0_1 x26_2) 0 3 true _ A17.out).mono ?_); rintro e w' ⟨rfl, ⟨nd, rfl⟩⟩; have p374 : 0 ≤ (x26_2 : Int) := of_decide_eq_true (by first | (with_reducible assumption) | assumption); have q374 : x26_2 < (l0_1.length : Int) := of_decide_eq_true (by first | (with_reducible assumption) | assumption); obtain ⟨ad374, e374, hx374_0⟩ := Kd.at_int HR0_1.out x26_2 p374 q374; obtain rfl : ad372 = ad374 := (by injection e374); replace hx374_0 := (HB.out.cell (World.block_lt_of_cell? w _ hx374_0)).trans hx374_0; replace p374 := eq_true p374; replace q374 := eq_true q374))
      go_roundg k2
      case measure => have := HJ1.out; have := HK2.out; omega
      case rel => exact ⟨(wrap64 (x26_2 + 1)), (by first | rfl | (simp; done) | (simp [*]; done)), H', ⟨by have := HJ1.out; have := HK2.out; omega⟩, ⟨by (with_reducible repeat (first | refine blk_drewN ?_ _ | refine blk_drew ?_ | refine blk_alloc ?_ _)); exact BK369.out⟩, ⟨hB HB⟩⟩
     rw [if_pos c19] at H
     have c19b0 : (((rd l0_1 x26_2) == 0) != ((rd l0_0 x26_2) == 0)) = true := c19
     (try (have c19b1 : decide (((rd l0_1 x26_2) == 0) = ((rd l0_0 x26_2) == 0)) = false := by simpa using c19))
     (try (have c19b2 : (((rd l0_1 x26_2) == 0) == ((rd l0_0 x26_2) == 0)) = false := by simpa using c19))
     (try (have c19b3 : ¬ (((rd l0_1 x26_2) == 0) = ((rd l0_0 x26_2) == 0)) := by simpa using c19))
     clear c19
     obtain rfl := Option.some.inj H
     have p370 : 0 ≤ (x26_2 : Int) := of_decide_eq_true (by first | (with_reducible assumption) | assumption)
     have q370 : x26_2 < (l0_0.length : Int) := of_decide_eq_true (by first | (with_reducible assumption) | assumption)
     obtain ⟨ad370, e370, hx370_0⟩ := Kd.at_int HR0_0.out x26_2 p370 q370
     cases e370
     replace hx370_0 := (HB.out.cell (World.block_lt_of_cell? w _ hx370_0)).trans hx370_0
     replace p370 := eq_true p370
     replace q370 := eq_true q370
     go_wp2_with (first | ((with_reducible refine gate_callee (f := 108) rfl ?_); refine goesL_ (some 32) rfl rfl Try.func108 (by kernel_rfl) rfl #[.int .i64 (rd l0_0 x26_2), .int .i64 0, .int .i64 2] rfl tm_ ?_; (with_reducible refine (spec_l1In.calls (rd l0_0 x26_2) 0 2 true _ A14.out).mono ?_); rintro e w' ⟨rfl, ⟨nd, rfl⟩⟩; refine ⟨_, rfl, ?_⟩; have hcz20_0 : wr.cell? ⟨gb369, 0, none⟩ = some (.slice (some ad370) l0_0.length c0_0) := bc_ BK369 0; have hcz20_1 : wr.cell? ⟨gb369, 1, none⟩ = some (.slice A0_1 l0_1.length c0_1) := bc_ BK369 1; have hcz20_2 : wr.cell? ⟨gb369, 2, none⟩ = some (.slice A0_2 l0_2.length c0_2) := bc_ BK369 2; have hfz20_0 := blk_frozen BK369.out 0; have hfz20_1 := blk_frozen BK369.out 1; have hfz20_2 := blk_frozen BK369.out 2; have p372 : 0 ≤ (x26_2 : Int) := of_decide_eq_true (by first | (with_reducible assumption) | assumption); have q372 : x26_2 < (l0_1.length : Int) := of_decide_eq_true (by first | (with_reducible assumption) | assumption); obtain ⟨ad372, e372, hx372_0⟩ := Kd.at_int HR0_1.out x26_2 p372 q372; cases e372; replace hx372_0 := (HB.out.cell (World.block_lt_of_cell? w _ hx372_0)).trans hx372_0; replace p372 := eq_true p372; replace q372 := eq_true q372) | (go_at_call 108; (with_reducible refine (spec_l1In.calls (rd l0_1 x26_2) 0 3 true _ A17.out).mono ?_); rintro e w' ⟨rfl, ⟨nd, rfl⟩⟩; have p374 : 0 ≤ (x26_2 : Int) := of_decide_eq_true (by first | (with_reducible assumption) | assumption); have q374 : x26_2 < (l0_1.length : Int) := of_decide_eq_true (by first | (with_reducible assumption) | assumption); obtain ⟨ad374, e374, hx374_0⟩ := Kd.at_int HR0_1.out x26_2 p374 q374; obtain rfl : ad372 = ad374 := (by injection e374); replace hx374_0 := (HB.out.cell (World.block_lt_of_cell? w _ hx374_0)).trans hx374_0; replace p374 := eq_true p374; replace q374 := eq_true q374))
     go_ret
     exact ⟨by first | rfl | (simp [errW_none, errW_some] <;> rfl) | (simp [*, errW_none, errW_some] <;> rfl), by repeat (first | (with_reducible first | exact HB.out | apply below_alloc | apply pw_below_drewN | apply below_drew1 | refine below_set ?_ GE369.out) | exact HB.out)⟩

def laws_toHello.f (a0_0 : Int) (a0_1 : Bool) : Option (Int × Bool) := some (a0_0, a0_1)
set_option maxHeartbeats 8000000 in
set_option maxRecDepth 100000 in
theorem laws_toHello.calls (a0_0 : Int) (a0_1 : Bool) (r1 : Int) (r2 : Bool) (w : World) (h : laws_toHello.f a0_0 a0_1 = some (r1, r2)) :
  Calls Try.prog 158 #[.agg #[.int .i64 a0_0, .bool a0_1]] w fun e w' => e = .returned (.agg #[.int .i64 r1, .bool r2]) ∧ Below w.heap.size w w' := by
 have hu188 := Try.underlying188
 have hu127 := Try.underlying127
 have HB := Aside0.mk (Below.refl w.heap.size w)
 have H : (some (a0_0, a0_1)) = some (r1, r2) := h
 clear h
 simp only [Option.some.injEq, Prod.mk.injEq] at H
 obtain ⟨rfl, rfl⟩ := H
 go_enter Try.func158, Try.ntmps158
 go_wp2_with (first | ((with_reducible refine gate_dst (N := 1) rfl ?_); refine box_event ?hg (N := 1) ?hd (cs := #[.int .i64 a0_0, .bool a0_1]) (t := 188) ?hr ?_; (case hd => rfl); (case hg => rfl); (case hr => first | (go_simp; done) | (go_simp; rfl)); intro gb485 hg w2 hbox hb; have BK485 := Aside0.mk (hbox); have GW485 := gw_ hg HB; have GE485 := gw_ hg HB; replace HB := bst_ HB hb; clear hb hbox hg) | ((with_reducible refine gate_dst (N := 2) rfl ?_); refine box_event ?hg (N := 2) ?hd (cs := #[.int .i64 0, .bool false]) (t := 127) ?hr ?_; (case hd => rfl); (case hg => rfl); (case hr => first | (go_simp; done) | (go_simp; rfl)); intro gb486 hg w3 hbox hb; have BK486 := Aside0.mk (hbox); have GW486 := gw_ hg HB; have GE486 := gw_ hg HB; have NB485_486 := nl_ hg BK485; have NB486_485 := ng_ hg BK485; replace BK485 := bb_ BK485 hb; replace HB := bst_ HB hb; clear hb hbox hg) | ((with_reducible refine gate_dst (N := 3) rfl ?_); refine box_event ?hg (N := 3) ?hd (cs := #[.int .i64 0, .bool false]) (t := 127) ?hr ?_; (case hd => rfl); (case hg => rfl); (case hr => first | (go_simp; done) | (go_simp; rfl)); intro gb487 hg w4 hbox hb; have BK487 := Aside0.mk (hbox); have GW487 := gw_ hg HB; have GE487 := gw_ hg HB; have NB485_487 := nl_ hg BK485; have NB487_485 := ng_ hg BK485; have NB486_487 := nl_ hg BK486; have NB487_486 := ng_ hg BK486; replace BK485 := bb_ BK485 hb; replace BK486 := bb_ BK486 hb; replace HB := bst_ HB hb; clear hb hbox hg; have hnb5 := NB485_486.out; have hnc5 := NB486_485.out; have hnb6 := NB485_487.out; have hnc6 := NB487_485.out; have hcz7_0 : w4.cell? ⟨gb485, 0, none⟩ = some (.int .i64 a0_0) := bc_ BK485 0; have hcz7_1 : w4.cell? ⟨gb485, 1, none⟩ = some (.bool a0_1) := bc_ BK485 1; have hfz7_0 := blk_frozen BK485.out 0; have hfz7_1 := blk_frozen BK485.out 1; have hnb8 := NB487_486.out; have hnc8 := NB486_487.out; have hcz9_0 : w4.cell? ⟨gb487, 0, none⟩ = some (.int .i64 0) := bc_ BK487 0; have hcz9_1 : w4.cell? ⟨gb487, 1, none⟩ = some (.bool false) := bc_ BK487 1; have hfz9_0 := blk_frozen BK487.out 0; have hfz9_1 := blk_frozen BK487.out 1; have hcz10_0 : w4.cell? ⟨gb486, 0, none⟩ = some (.int .i64 0) := bc_ BK486 0; have hcz10_1 : w4.cell? ⟨gb486, 1, none⟩ = some (.bool false) := bc_ BK486 1; have hfz10_0 := blk_frozen BK486.out 0; have hfz10_1 := blk_frozen BK486.out 1))
 refine bodyPost_ret (results_cell_row rfl _ _ gb486 127 #[.int .i64 a0_0, .bool a0_1] (0, 0) _ rfl (by (with_reducible repeat (first | refine blk_drewN ?_ _ | refine blk_drew ?_ | refine blk_alloc ?_ _)); refine blk_put (cs := #[.int .i64 a0_0, .bool false]) ?_ 1 _ rfl; (with_reducible repeat (first | refine blk_drewN ?_ _ | refine blk_drew ?_ | refine blk_alloc ?_ _)); refine blk_put (cs := #[.int .i64 0, .bool false]) ?_ 0 _ rfl; (with_reducible repeat (first | refine blk_drewN ?_ _ | refine blk_drew ?_ | refine blk_alloc ?_ _)); refine blk_far ?_ NB486_487.out _; (with_reducible repeat (first | refine blk_drewN ?_ _ | refine blk_drew ?_ | refine blk_alloc ?_ _)); refine blk_far ?_ NB486_487.out _; (with_reducible repeat (first | refine blk_drewN ?_ _ | refine blk_drew ?_ | refine blk_alloc ?_ _)); exact BK486.out) Try.underlying127 rfl (by kernel_rfl)) rfl ?_
 exact ⟨by first | rfl | (simp [errW_none, errW_some] <;> rfl) | (simp [*, errW_none, errW_some] <;> rfl), by repeat (first | (with_reducible first | exact HB.out | apply below_alloc | apply pw_below_drewN | apply below_drew1 | refine below_set ?_ GE485.out | refine below_set ?_ GE486.out | refine below_set ?_ GE487.out) | exact HB.out)⟩

def laws_toHelloS.l0 : Nat → List (S188) → List (S127) → Int → Option ((List (S127)))
 | 0, _, _, _ => none
 | k + 1, x0, x3, x4 => if x4 < (x0.length : Int) then (if 0 ≤ x4 then ((laws_toHello.f ((rd_T188 x0 x4).f0) ((rd_T188 x0 x4).f1)).bind fun bt492 => (if x4 < (x3.length : Int) then (laws_toHelloS.l0 k x0 (x3.set (x4 : Int).toNat (⟨bt492.1, bt492.2⟩ : S127)) (wrap64 (x4 + 1))) else (none))) else (none)) else (some x3)
def laws_toHelloS.f (k : Nat) (l0 : List (S188)) : Option ((List (S127))) := if 0 ≤ (l0.length : Int) then (if ((l0.length : Int) : Int).toNat ≤ 17592186044416 then (laws_toHelloS.l0 k l0 (List.replicate ((l0.length : Int) : Int).toNat z127) 0) else (none)) else (none)
theorem laws_toHelloS.mono_l : ∀ k, (∀ y0 y1 y2, LeO (laws_toHelloS.l0 k y0 y1 y2) (laws_toHelloS.l0 (k + 1) y0 y1 y2))
 | 0 => fun _ _ _ r h => by simp [laws_toHelloS.l0] at h
 | k + 1 => by
  have ih0 := laws_toHelloS.mono_l k
  ·intro y0 y1 y2
   unfold laws_toHelloS.l0
   repeat' first
   | (with_reducible exact ih0 _ _ _)
   | (with_reducible exact LeO.refl _)
   | (with_reducible exact LeO.none _)
   | (with_reducible refine LeO.ite ?_ ?_)
   | (with_reducible refine LeO.bind ?_ (fun _ => ?_))
theorem laws_toHelloS.mono : ∀ a0 k, LeO (laws_toHelloS.f k a0) (laws_toHelloS.f (k + 1) a0) := by
 intro a0 k
 have ih0 := laws_toHelloS.mono_l k
 unfold laws_toHelloS.f
 repeat' first
   | (with_reducible exact ih0 _ _ _)
   | (with_reducible exact LeO.refl _)
   | (with_reducible exact LeO.none _)
   | (with_reducible refine LeO.ite ?_ ?_)
   | (with_reducible refine LeO.bind ?_ (fun _ => ?_))
set_option maxHeartbeats 8000000 in
set_option maxRecDepth 100000 in
theorem laws_toHelloS.calls (k : Nat) (A0 : Option Addr) (c0 : Nat) (l0 : List (S188)) (r : List (S127)) (w : World) (hr0 : Kd.C k188 w A0 l0.length l0) (hc0 : l0.length ≤ c0) (h : laws_toHelloS.f k l0 = some r) :
  Calls Try.prog 89 #[.slice A0 l0.length c0] w fun e w' => ∃ v0_ : Value, e = .returned (v0_) ∧ Kd.R k127 127 w' w.heap.size (fun _ => True) v0_ r ∧ Below w.heap.size w w' := by
 have hu188 := Try.underlying188
 have hu127 := Try.underlying127
 have HR0 := Aside0.mk hr0
 have HC0 := Aside0.mk hc0
 clear hr0 hc0
 have HB := Aside0.mk (Below.refl w.heap.size w)
 have H : (if 0 ≤ (l0.length : Int) then (if ((l0.length : Int) : Int).toNat ≤ 17592186044416 then (laws_toHelloS.l0 k l0 (List.replicate ((l0.length : Int) : Int).toNat z127) 0) else (none)) else (none)) = some r := h
 clear h
 by_cases c2 : 0 ≤ (l0.length : Int)
 rotate_left
 ·rw [if_neg c2] at H
  exact absurd H (by simp)
 rw [if_pos c2] at H
 have c2b0 := eq_true c2
 have c2b1 : decide (0 ≤ (l0.length : Int)) = true := decide_eq_true c2
 clear c2
 by_cases c3 : ((l0.length : Int) : Int).toNat ≤ 17592186044416
 rotate_left
 ·rw [if_neg c3] at H
  exact absurd H (by simp)
 rw [if_pos c3] at H
 have c3b0 := eq_true c3
 have c3b1 : decide (((l0.length : Int) : Int).toNat ≤ 17592186044416) = true := decide_eq_true c3
 clear c3
 obtain ⟨y488, hy488⟩ : ∃ y_ : List (S127), y_ = (List.replicate ((l0.length : Int) : Int).toNat z127) := ⟨_, rfl⟩
 replace H : (laws_toHelloS.l0 k l0 y488 0) = some r := by first | (rw [hy488]; with_reducible exact H) | (have H2_ := (Option.bind_some _ _).symm.trans H; rw [hy488]; with_reducible exact H2_) | (have H2_ := (Option.bind_some _ _).symm.trans H; with_reducible exact H2_) | with_reducible exact H | (rw [hy488]; exact H) | exact H
 have Ny488 := Aside0.mk hy488
 clear hy488
 have H' := Aside0.mk H
 clear H
 go_enter Try.func89, Try.ntmps89
 go_wp2_with (first | ((with_reducible refine gate_dst (N := 7) rfl ?_); refine Kd.R_make k127 _ 127 rfl (N := 7) rfl 45 _ _ rfl (l0.length : Int) rfl rfl Try.underlying45 (.agg #[(.int .i64 0), (.bool false)]) 16 info127 rfl (by decide) (by omega) z127 (ok := fun _ => True) (okp := fun _ => True) (k127_mkM _ _ _ z127 ) (fun _ hk => hk) trivial (of_decide_eq_true (by first | (with_reducible assumption) | assumption)) (Nat.le_trans (Nat.mul_le_mul_right _ (of_decide_eq_true (by first | (with_reducible assumption) | assumption) : (l0.length : Int).toNat ≤ 17592186044416)) (by omega)) (Below.refl _ _) (Nat.le_refl _) ?_; intro v489 w4 ho5 hb hg_ hnew_; clear hg_ hnew_; (first | rw [← Ny488.out] at ho5 | (simp only [Int.reduceToNat] at ho5; rw [← Ny488.out] at ho5)); have HO490 := Aside0.mk (Kd.R_lower ho5 (below_size (hB HB))); replace HB := bst_ HB hb; clear hb ho5))
 go_loopg [4] k (fun kq v4 w' => ∃ (x3_1 : List (S127)) (x4_1 : Int), v4 = .int .i64 x4_1 ∧ Aside0 (laws_toHelloS.l0 kq l0 x3_1 x4_1 = some r) ∧ Aside0 (kq ≤ k) ∧ Aside0 (Kd.R k127 127 w' w.heap.size (fun _ => True) v489 x3_1) ∧ Aside0 (Below w.heap.size w w'))
 case atStart => exact ⟨(y488), (0), (by first | rfl | (simp; done) | (simp [*]; done)), H', ⟨Nat.le_refl _⟩, ⟨ra HO490.out⟩, ⟨hB HB⟩⟩
 case round =>
  clear H'
  try clear c2
  try clear c2b0
  try clear c2b1
  try clear c3
  try clear c3b0
  try clear c3b1
  obtain ⟨x3_1, x4_1, rfl, HA, HK1, HO_3, HB⟩ := hrel
  cases gk with
  | zero => exact absurd HA.out (by simp [laws_toHelloS.l0])
  | succ k1 =>
   have H := HA.out
   clear HA
   simp only [laws_toHelloS.l0] at H
   by_cases c6 : x4_1 < (l0.length : Int)
   rotate_left
   ·rw [if_neg c6] at H
    have c6b0 : decide (x4_1 < (l0.length : Int)) = false := decide_eq_false c6
    clear c6
    obtain rfl := Option.some.inj H
    go_wp2
    go_ret
    exact ⟨_, by first | rfl | (simp [errW_none, errW_some] <;> rfl) | (simp [*, errW_none, errW_some] <;> rfl), by (with_reducible repeat (first | apply Kd.R_alloc | apply Kd.R_drewN | apply Kd.R_drew)); exact HO_3.out, by repeat (first | (with_reducible first | exact HB.out | apply below_alloc | apply pw_below_drewN | apply below_drew1) | exact HB.out)⟩
   rw [if_pos c6] at H
   have c6b0 : decide (x4_1 < (l0.length : Int)) = true := decide_eq_true c6
   clear c6
   by_cases c7 : 0 ≤ x4_1
   rotate_left
   ·rw [if_neg c7] at H
    exact absurd H (by simp)
   rw [if_pos c7] at H
   have c7b0 : decide (0 ≤ x4_1) = true := decide_eq_true c7
   clear c7
   replace H := Option.bind_eq_some_iff.mp H
   obtain ⟨⟨t492, t493⟩, A80, H⟩ := H
   replace H : (if x4_1 < (x3_1.length : Int) then (laws_toHelloS.l0 k1 l0 (x3_1.set (x4_1 : Int).toNat (⟨t492, t493⟩ : S127)) (wrap64 (x4_1 + 1))) else (none)) = some r := H
   have A8 := Aside0.mk A80
   clear A80
   by_cases c9 : x4_1 < (x3_1.length : Int)
   rotate_left
   ·rw [if_neg c9] at H
    exact absurd H (by simp)
   rw [if_pos c9] at H
   have c9b0 : decide (x4_1 < (x3_1.length : Int)) = true := decide_eq_true c9
   clear c9
   obtain ⟨y494, hy494⟩ : ∃ y_ : List (S127), y_ = (x3_1.set (x4_1 : Int).toNat (⟨t492, t493⟩ : S127)) := ⟨_, rfl⟩
   replace H : (laws_toHelloS.l0 k1 l0 y494 (wrap64 (x4_1 + 1))) = some r := by first | (rw [hy494]; with_reducible exact H) | (have H2_ := (Option.bind_some _ _).symm.trans H; rw [hy494]; with_reducible exact H2_) | (have H2_ := (Option.bind_some _ _).symm.trans H; with_reducible exact H2_) | with_reducible exact H | (rw [hy494]; exact H) | exact H
   have Ny494 := Aside0.mk hy494
   clear hy494
   have H' := Aside0.mk H
   clear H
   have p491 : 0 ≤ (x4_1 : Int) := of_decide_eq_true (by first | (with_reducible assumption) | assumption)
   have q491 : x4_1 < (l0.length : Int) := of_decide_eq_true (by first | (with_reducible assumption) | assumption)
   obtain ⟨ad491, e491, hx491_0, hx491_1⟩ := at_T188 HR0.out x4_1 p491 q491
   cases e491
   replace hx491_0 := (HB.out.cell (World.block_lt_of_cell? w _ hx491_0)).trans hx491_0
   replace hx491_1 := (HB.out.cell (World.block_lt_of_cell? w _ hx491_1)).trans hx491_1
   replace p491 := eq_true p491
   replace q491 := eq_true q491
   go_wp2_with (first | ((with_reducible refine gate_callee (f := 158) rfl ?_); refine goesL_ (some 20) rfl rfl Try.func158 (by kernel_rfl) rfl #[.agg #[.int .i64 ((rd_T188 l0 x4_1).f0), .bool ((rd_T188 l0 x4_1).f1)]] rfl tm_ ?_; (with_reducible refine (laws_toHello.calls ((rd_T188 l0 x4_1).f0) ((rd_T188 l0 x4_1).f1) t492 t493 _ A8.out).mono ?_); rintro e w11 ⟨rfl, hb⟩; refine ⟨_, rfl, ?_⟩; replace HO_3 := rb_ HO_3 hb; replace HB := bst_ HB hb; clear hb; have p10 : 0 ≤ (x4_1 : Int) := of_decide_eq_true (by first | (with_reducible assumption) | assumption); have q10 : (x4_1 : Int) < ((x3_1.length : Int) : Int) := of_decide_eq_true (by first | (with_reducible assumption) | assumption); obtain ⟨go10, co10, eo10, gb10, gl10, cl10, HG10⟩ := Kd.R_form HO_3.out (by omega); (first | cases eo10 | (injection eo10 with ea_ en_ ec_; (first | subst ea_ | (injection ea_ with ea_; subst ea_)); subst ec_; clear en_)); have GB10 := Aside0.mk gb10; have GG10 := Aside0.mk HG10; clear gb10 gl10 HG10; obtain ⟨ce10, hcl10, hM10, hcc10, hfr10⟩ := Kd.R_elem HO_3.out z127 (x4_1 : Int) p10 q10; obtain rfl := k127_openM hM10; have hx10_0 : w11.cell? ⟨go10, (x4_1 : Int).toNat * 2, none⟩ = some (.int .i64 ((rd_T127 x3_1 x4_1).f0)) := hcc10 0 _ rfl; have hx10_1 : w11.cell? ⟨go10, (x4_1 : Int).toNat * 2 + 1, none⟩ = some (.bool ((rd_T127 x3_1 x4_1).f1)) := hcc10 1 _ rfl; have hf10_0 : w11.frozen? ⟨go10, (x4_1 : Int).toNat * 2, none⟩ = false := hfr10 0; have hf10_1 : w11.frozen? ⟨go10, (x4_1 : Int).toNat * 2 + 1, none⟩ = false := hfr10 1; clear hcl10 hcc10 hfr10 hM10; replace p10 := eq_true p10; replace q10 := eq_true q10; have HX12 := Aside0.mk (show Kd.R k127 127 w11 w.heap.size (fun _ => True) (.slice (some ⟨go10, 0, none⟩) x3_1.length co10) x3_1 from (ra HO_3.out)); obtain ⟨ce12, hcl12, hM12, hcc12, hfr12⟩ := Kd.R_elem HX12.out z127 (x4_1 : Int) (of_decide_eq_true (by first | (with_reducible assumption) | assumption)) (by have h_ : (x4_1 : Int) < ((x3_1.length : Int) : Int) := of_decide_eq_true (by first | (with_reducible assumption) | assumption); first | exact h_ | (have e_ := (Kd.R_reads' HO_3.out).1; omega) | simpa using h_); obtain rfl := k127_openM hM12; have HP12 := Kd.R_seg HX12.out (x4_1 : Int) (of_decide_eq_true (by first | (with_reducible assumption) | assumption)) (by have h_ : (x4_1 : Int) < ((x3_1.length : Int) : Int) := of_decide_eq_true (by first | (with_reducible assumption) | assumption); first | exact h_ | (have e_ := (Kd.R_reads' HO_3.out).1; omega) | simpa using h_) (seg := [.int .i64 t492, .bool t493]) (j := 0) hcl12 hcc12 (show 2 ≤ 2 from by decide) (x' := (⟨t492, t493⟩ : S127)) (k127_mkM _ _ _ (⟨t492, t493⟩ : S127) ) (fun _ hk => hk); have hx12_0 := hcc12 0 _ rfl; (try simp only [show (k127).sz = 2 from rfl, Nat.mul_one, Nat.add_zero] at hx12_0); have hf12_0 := hfr12 0; (try simp only [show (k127).sz = 2 from rfl, Nat.mul_one, Nat.add_zero] at hf12_0); have hx12_1 := hcc12 1 _ rfl; (try simp only [show (k127).sz = 2 from rfl, Nat.mul_one, Nat.add_zero] at hx12_1); have hf12_1 := hfr12 1; (try simp only [show (k127).sz = 2 from rfl, Nat.mul_one, Nat.add_zero] at hf12_1); clear hcl12 hcc12 hfr12 hM12) | ((with_reducible refine gate_store (t := 127) (p := 21) rfl ?_); refine store_event (t := 127) (p := 21) (v := ?vo_w13) (w1 := ((w11.setCell ⟨go10, (x4_1 : Int).toNat * 2, none⟩ (.int .i64 t492)).setCell ⟨go10, (x4_1 : Int).toNat * 2 + 1, none⟩ (.bool t493))) ?hg ?ho ?hn ?hr ?_; (case ho => rfl); (case hg => rfl); (case hn => rfl); (case hr => first | (go_simp; done) | (go_simp; rfl)); intro w13 hw; have hg : w11.grownBy w13 (some go10) := (by rw [hw]; exact HP12.2); have hp_ : Kd.R k127 127 w13 w.heap.size (fun _ => True) (.slice (some ⟨go10, 0, none⟩) x3_1.length co10) y494 := (by rw [hw, Ny494.out]; exact HP12.1); clear HP12; replace HO_3 := Aside0.mk (hp_); replace HB := Aside0.mk ((by rw [hw]; exact below_set (below_set (HB.out) GB10.out) GB10.out : Below w.heap.size w w13)); clear hg hw hp_))
   go_roundg k1
   case measure => have := HK1.out; omega
   case rel => exact ⟨(y494), (wrap64 (x4_1 + 1)), (by first | rfl | (simp; done) | (simp [*]; done)), H', ⟨by have := HK1.out; omega⟩, ⟨ra HO_3.out⟩, ⟨hB HB⟩⟩

def laws_toPair.f (k : Nat) (l0_0 : List Int) (l0_1 : List Int) (l0_2 : List (S188)) : Option (List Int × List Int × (List (S127))) := (laws_toIntS.f k l0_0).bind fun t498 => ((laws_toIntS.f k l0_1).bind fun t501 => ((laws_toHelloS.f k l0_2).bind fun t504 => (some (t498, t501, t504))))
theorem laws_toPair.mono : ∀ a0 a1 a2 k, LeO (laws_toPair.f k a0 a1 a2) (laws_toPair.f (k + 1) a0 a1 a2) := by
 intro a0 a1 a2 k
 unfold laws_toPair.f
 repeat' first
   | (with_reducible exact laws_toHelloS.mono _ _)
   | (with_reducible exact laws_toIntS.mono _ _)
   | (with_reducible exact LeO.refl _)
   | (with_reducible exact LeO.none _)
   | (with_reducible refine LeO.ite ?_ ?_)
   | (with_reducible refine LeO.bind ?_ (fun _ => ?_))
set_option maxHeartbeats 8000000 in
set_option maxRecDepth 100000 in
theorem laws_toPair.calls (k : Nat) (A0_0 : Option Addr) (c0_0 : Nat) (l0_0 : List Int) (A0_1 : Option Addr) (c0_1 : Nat) (l0_1 : List Int) (A0_2 : Option Addr) (c0_2 : Nat) (l0_2 : List (S188)) (r1 : List Int) (r2 : List Int) (r3 : List (S127)) (w : World) (hr0_0 : Kd.C (Kd.int .i64) w A0_0 l0_0.length l0_0) (hc0_0 : l0_0.length ≤ c0_0) (hr0_1 : Kd.C (Kd.int .i64) w A0_1 l0_1.length l0_1) (hc0_1 : l0_1.length ≤ c0_1) (hr0_2 : Kd.C k188 w A0_2 l0_2.length l0_2) (hc0_2 : l0_2.length ≤ c0_2) (h : laws_toPair.f k l0_0 l0_1 l0_2 = some (r1, r2, r3)) :
  Calls Try.prog 31 #[.agg #[.slice A0_0 l0_0.length c0_0, .slice A0_1 l0_1.length c0_1, .slice A0_2 l0_2.length c0_2]] w fun e w' => ∃ v0_ v1_ v2_ : Value, e = .returned (.agg #[v0_, v1_, v2_]) ∧ Kd.R (Kd.int .i64) 3 w' w.heap.size (fun k_ => no_ v1_ k_) v0_ r1 ∧ Kd.R (Kd.int .i64) 3 w' w.heap.size (fun k_ => no_ v0_ k_) v1_ r2 ∧ Kd.R k127 127 w' w.heap.size (fun _ => True) v2_ r3 ∧ Below w.heap.size w w' := by
 have hu41 := Try.underlying41
 have hu47 := Try.underlying47
 have HR0_0 := Aside0.mk hr0_0
 have HC0_0 := Aside0.mk hc0_0
 clear hr0_0 hc0_0
 have HR0_1 := Aside0.mk hr0_1
 have HC0_1 := Aside0.mk hc0_1
 clear hr0_1 hc0_1
 have HR0_2 := Aside0.mk hr0_2
 have HC0_2 := Aside0.mk hc0_2
 clear hr0_2 hc0_2
 have HB := Aside0.mk (Below.refl w.heap.size w)
 have H : ((laws_toIntS.f k l0_0).bind fun t498 => ((laws_toIntS.f k l0_1).bind fun t501 => ((laws_toHelloS.f k l0_2).bind fun t504 => (some (t498, t501, t504))))) = some (r1, r2, r3) := h
 clear h
 replace H := Option.bind_eq_some_iff.mp H
 obtain ⟨t498, A20, H⟩ := H
 replace H : ((laws_toIntS.f k l0_1).bind fun t501 => ((laws_toHelloS.f k l0_2).bind fun t504 => (some (t498, t501, t504)))) = some (r1, r2, r3) := H
 have A2 := Aside0.mk A20
 clear A20
 replace H := Option.bind_eq_some_iff.mp H
 obtain ⟨t501, A30, H⟩ := H
 replace H : ((laws_toHelloS.f k l0_2).bind fun t504 => (some (t498, t501, t504))) = some (r1, r2, r3) := H
 have A3 := Aside0.mk A30
 clear A30
 replace H := Option.bind_eq_some_iff.mp H
 obtain ⟨t504, A40, H⟩ := H
 replace H : (some (t498, t501, t504)) = some (r1, r2, r3) := H
 have A4 := Aside0.mk A40
 clear A40
 simp only [Option.some.injEq, Prod.mk.injEq] at H
 obtain ⟨rfl, rfl, rfl⟩ := H
 go_enter Try.func31, Try.ntmps31
 go_wp2_with (first | ((with_reducible refine gate_dst (N := 1) rfl ?_); refine box_event ?hg (N := 1) ?hd (cs := #[.slice A0_0 l0_0.length c0_0, .slice A0_1 l0_1.length c0_1, .slice A0_2 l0_2.length c0_2]) (t := 41) ?hr ?_; (case hd => rfl); (case hg => rfl); (case hr => first | (go_simp; done) | (go_simp; rfl)); intro gb495 hg w5 hbox hb; have BK495 := Aside0.mk (hbox); have GW495 := gw_ hg HB; have GE495 := gw_ hg HB; replace HB := bst_ HB hb; clear hb hbox hg) | ((with_reducible refine gate_dst (N := 2) rfl ?_); refine box_event ?hg (N := 2) ?hd (cs := #[.slice none 0 0, .slice none 0 0, .slice none 0 0]) (t := 47) ?hr ?_; (case hd => rfl); (case hg => rfl); (case hr => first | (go_simp; done) | (go_simp; rfl)); intro gb496 hg w6 hbox hb; have BK496 := Aside0.mk (hbox); have GW496 := gw_ hg HB; have GE496 := gw_ hg HB; have NB495_496 := nl_ hg BK495; have NB496_495 := ng_ hg BK495; replace BK495 := bb_ BK495 hb; replace HB := bst_ HB hb; clear hb hbox hg) | ((with_reducible refine gate_dst (N := 3) rfl ?_); refine box_event ?hg (N := 3) ?hd (cs := #[.slice none 0 0, .slice none 0 0, .slice none 0 0]) (t := 47) ?hr ?_; (case hd => rfl); (case hg => rfl); (case hr => first | (go_simp; done) | (go_simp; rfl)); intro gb497 hg w7 hbox hb; have BK497 := Aside0.mk (hbox); have GW497 := gw_ hg HB; have GE497 := gw_ hg HB; have NB495_497 := nl_ hg BK495; have NB497_495 := ng_ hg BK495; have NB496_497 := nl_ hg BK496; have NB497_496 := ng_ hg BK496; replace BK495 := bb_ BK495 hb; replace BK496 := bb_ BK496 hb; replace HB := bst_ HB hb; clear hb hbox hg; have hnb8 := NB495_496.out; have hnc8 := NB496_495.out; have hnb9 := NB495_497.out; have hnc9 := NB497_495.out; have hcz10_0 : w7.cell? ⟨gb495, 0, none⟩ = some (.slice A0_0 l0_0.length c0_0) := bc_ BK495 0; have hcz10_1 : w7.cell? ⟨gb495, 1, none⟩ = some (.slice A0_1 l0_1.length c0_1) := bc_ BK495 1; have hcz10_2 : w7.cell? ⟨gb495, 2, none⟩ = some (.slice A0_2 l0_2.length c0_2) := bc_ BK495 2; have hfz10_0 := blk_frozen BK495.out 0; have hfz10_1 := blk_frozen BK495.out 1; have hfz10_2 := blk_frozen BK495.out 2) | ((with_reducible refine gate_callee (f := 71) rfl ?_); refine goesL_ (some 6) rfl rfl Try.func71 (by kernel_rfl) rfl #[.slice A0_0 l0_0.length c0_0] rfl tm_ ?_; (with_reducible refine (laws_toIntS.calls k _ _ l0_0 t498 _ ?side1 ?side2 A2.out).mono ?_); (case side1 => exact ca (Kd.C_below HR0_0.out HB.out)); (case side2 => exact HC0_0.out); rintro e w11 ⟨v499, rfl, ho0, hb⟩; refine ⟨_, rfl, ?_⟩; have HO500 := Aside0.mk (Kd.R_lower ho0 (below_size (hB HB))); replace BK495 := bb_ BK495 hb; replace BK496 := bb_ BK496 hb; replace BK497 := bb_ BK497 hb; replace HB := bst_ HB hb; clear hb ho0; obtain ⟨Ao12, co12, eo12⟩ := Kd.R_slice HO500.out; subst eo12; have hnb13 := NB497_496.out; have hnc13 := NB496_497.out; have hcz14_0 : w11.cell? ⟨gb497, 0, none⟩ = some (.slice none 0 0) := bc_ BK497 0; have hcz14_1 : w11.cell? ⟨gb497, 1, none⟩ = some (.slice none 0 0) := bc_ BK497 1; have hcz14_2 : w11.cell? ⟨gb497, 2, none⟩ = some (.slice none 0 0) := bc_ BK497 2; have hfz14_0 := blk_frozen BK497.out 0; have hfz14_1 := blk_frozen BK497.out 1; have hfz14_2 := blk_frozen BK497.out 2; have hcz15_0 : w11.cell? ⟨gb495, 0, none⟩ = some (.slice A0_0 l0_0.length c0_0) := bc_ BK495 0; have hcz15_1 : w11.cell? ⟨gb495, 1, none⟩ = some (.slice A0_1 l0_1.length c0_1) := bc_ BK495 1; have hcz15_2 : w11.cell? ⟨gb495, 2, none⟩ = some (.slice A0_2 l0_2.length c0_2) := bc_ BK495 2; have hfz15_0 := blk_frozen BK495.out 0; have hfz15_1 := blk_frozen BK495.out 1; have hfz15_2 := blk_frozen BK495.out 2) | ((with_reducible refine gate_callee (f := 71) rfl ?_); refine goesL_ (some 10) rfl rfl Try.func71 (by kernel_rfl) rfl #[.slice A0_1 l0_1.length c0_1] rfl tm_ ?_; (with_reducible refine (laws_toIntS.calls k _ _ l0_1 t501 _ ?side1 ?side2 A3.out).mono ?_); (case side1 => exact Kd.C_below HR0_1.out (hB HB)); (case side2 => exact HC0_1.out); rintro e w16 ⟨v502, rfl, ho0, hb⟩; refine ⟨_, rfl, ?_⟩; have HO503 := Aside0.mk (Kd.R_lower (Kd.R_new' ho0 (Kd.R_lt (ra (fm1_ HO500 BK497)))) (below_size (hB HB))); replace HO500 := Aside0.mk (Kd.R_elder' (ra (fm1_ HO500 BK497)) (Kd.R_base ho0) hb); replace BK495 := Aside0.mk (blk_below (bx BK495) hb); replace BK496 := Aside0.mk (blk_below (bx BK496) hb); replace BK497 := Aside0.mk (blk_below (g := gb497) (o := .cells #[.slice Ao12 t498.length co12, .slice none 0 0, .slice none 0 0] 47 (0, 0)) (by (with_reducible repeat (first | refine blk_drewN ?_ _ | refine blk_drew ?_ | refine blk_alloc ?_ _)); refine blk_put (cs := #[.slice none 0 0, .slice none 0 0, .slice none 0 0]) ?_ 0 _ rfl; (with_reducible repeat (first | refine blk_drewN ?_ _ | refine blk_drew ?_ | refine blk_alloc ?_ _)); exact BK497.out) hb); replace HB := bst_ HB hb; clear hb ho0; obtain ⟨Ao17, co17, eo17⟩ := Kd.R_slice HO503.out; subst eo17; have hcz18_0 : w16.cell? ⟨gb497, 0, none⟩ = some (.slice Ao12 t498.length co12) := bc_ BK497 0; have hcz18_1 : w16.cell? ⟨gb497, 1, none⟩ = some (.slice none 0 0) := bc_ BK497 1; have hcz18_2 : w16.cell? ⟨gb497, 2, none⟩ = some (.slice none 0 0) := bc_ BK497 2; have hfz18_0 := blk_frozen BK497.out 0; have hfz18_1 := blk_frozen BK497.out 1; have hfz18_2 := blk_frozen BK497.out 2; have hcz19_0 : w16.cell? ⟨gb495, 0, none⟩ = some (.slice A0_0 l0_0.length c0_0) := bc_ BK495 0; have hcz19_1 : w16.cell? ⟨gb495, 1, none⟩ = some (.slice A0_1 l0_1.length c0_1) := bc_ BK495 1; have hcz19_2 : w16.cell? ⟨gb495, 2, none⟩ = some (.slice A0_2 l0_2.length c0_2) := bc_ BK495 2; have hfz19_0 := blk_frozen BK495.out 0; have hfz19_1 := blk_frozen BK495.out 1; have hfz19_2 := blk_frozen BK495.out 2) | ((with_reducible refine gate_callee (f := 89) rfl ?_); refine goesL_ (some 14) rfl rfl Try.func89 (by kernel_rfl) rfl #[.slice A0_2 l0_2.length c0_2] rfl tm_ ?_; (with_reducible refine (laws_toHelloS.calls k _ _ l0_2 t504 _ ?side1 ?side2 A4.out).mono ?_); (case side1 => exact Kd.C_below HR0_2.out (hB HB)); (case side2 => exact HC0_2.out); rintro e w20 ⟨v505, rfl, ho0, hb⟩; refine ⟨_, rfl, ?_⟩; have HO506 := Aside0.mk (Kd.R_lower ho0 (below_size (hB HB))); replace HO500 := Aside0.mk (Kd.R_below (ra (Kd.R_mono (Kd.R_far (p := ⟨gb497, 1, none⟩) (Kd.R_types HO500.out BK497.out (by decide)) (fun _ hk => hk.2) (.slice Ao17 t501.length co17)) (fun _ h_ => h_.1))) hb); replace HO503 := Aside0.mk (Kd.R_below (ra (Kd.R_mono (Kd.R_far (p := ⟨gb497, 1, none⟩) (Kd.R_types HO503.out BK497.out (by decide)) (fun _ hk => hk.2) (.slice Ao17 t501.length co17)) (fun _ h_ => h_.1))) hb); replace BK495 := Aside0.mk (blk_below (bx BK495) hb); replace BK496 := Aside0.mk (blk_below (bx BK496) hb); replace BK497 := Aside0.mk (blk_below (g := gb497) (o := .cells #[.slice Ao12 t498.length co12, .slice Ao17 t501.length co17, .slice none 0 0] 47 (0, 0)) (by (with_reducible repeat (first | refine blk_drewN ?_ _ | refine blk_drew ?_ | refine blk_alloc ?_ _)); refine blk_put (cs := #[.slice Ao12 t498.length co12, .slice none 0 0, .slice none 0 0]) ?_ 1 _ rfl; (with_reducible repeat (first | refine blk_drewN ?_ _ | refine blk_drew ?_ | refine blk_alloc ?_ _)); exact BK497.out) hb); replace HB := bst_ HB hb; clear hb ho0; obtain ⟨Ao21, co21, eo21⟩ := Kd.R_slice HO506.out; subst eo21; have hcz22_0 : w20.cell? ⟨gb497, 0, none⟩ = some (.slice Ao12 t498.length co12) := bc_ BK497 0; have hcz22_1 : w20.cell? ⟨gb497, 1, none⟩ = some (.slice Ao17 t501.length co17) := bc_ BK497 1; have hcz22_2 : w20.cell? ⟨gb497, 2, none⟩ = some (.slice none 0 0) := bc_ BK497 2; have hfz22_0 := blk_frozen BK497.out 0; have hfz22_1 := blk_frozen BK497.out 1; have hfz22_2 := blk_frozen BK497.out 2; have hcz23_0 : w20.cell? ⟨gb496, 0, none⟩ = some (.slice none 0 0) := bc_ BK496 0; have hcz23_1 : w20.cell? ⟨gb496, 1, none⟩ = some (.slice none 0 0) := bc_ BK496 1; have hcz23_2 : w20.cell? ⟨gb496, 2, none⟩ = some (.slice none 0 0) := bc_ BK496 2; have hfz23_0 := blk_frozen BK496.out 0; have hfz23_1 := blk_frozen BK496.out 1; have hfz23_2 := blk_frozen BK496.out 2))
 refine bodyPost_ret (results_cell_row rfl _ _ gb496 47 #[.slice Ao12 t498.length co12, .slice Ao17 t501.length co17, .slice Ao21 t504.length co21] (0, 0) _ rfl (by (with_reducible repeat (first | refine blk_drewN ?_ _ | refine blk_drew ?_ | refine blk_alloc ?_ _)); refine blk_put (cs := #[.slice Ao12 t498.length co12, .slice Ao17 t501.length co17, .slice none 0 0]) ?_ 2 _ rfl; (with_reducible repeat (first | refine blk_drewN ?_ _ | refine blk_drew ?_ | refine blk_alloc ?_ _)); refine blk_put (cs := #[.slice Ao12 t498.length co12, .slice none 0 0, .slice none 0 0]) ?_ 1 _ rfl; (with_reducible repeat (first | refine blk_drewN ?_ _ | refine blk_drew ?_ | refine blk_alloc ?_ _)); refine blk_put (cs := #[.slice none 0 0, .slice none 0 0, .slice none 0 0]) ?_ 0 _ rfl; (with_reducible repeat (first | refine blk_drewN ?_ _ | refine blk_drew ?_ | refine blk_alloc ?_ _)); refine blk_far ?_ NB496_497.out _; (with_reducible repeat (first | refine blk_drewN ?_ _ | refine blk_drew ?_ | refine blk_alloc ?_ _)); exact BK496.out) Try.underlying47 rfl (by kernel_rfl)) rfl ?_
 exact ⟨_, _, _, by first | rfl | (simp [errW_none, errW_some] <;> rfl) | (simp [*, errW_none, errW_some] <;> rfl), by (with_reducible repeat (first | apply Kd.R_alloc | apply Kd.R_drewN | apply Kd.R_drew)); exact Kd.R_mono (Kd.R_far (p := ⟨gb496, 2, none⟩) (Kd.R_far (p := ⟨gb496, 1, none⟩) (Kd.R_far (p := ⟨gb496, 0, none⟩) (Kd.R_far (p := ⟨gb497, 2, none⟩) (Kd.R_types (Kd.R_types HO500.out BK497.out (by decide)) BK496.out (by decide)) (fun _ hk => hk.1.2) (.slice Ao21 t504.length co21)) (fun _ hk => hk.2) (.slice Ao12 t498.length co12)) (fun _ hk => hk.2) (.slice Ao17 t501.length co17)) (fun _ hk => hk.2) (.slice Ao21 t504.length co21)) (fun _ hk => hk.1.1.2), by (with_reducible repeat (first | apply Kd.R_alloc | apply Kd.R_drewN | apply Kd.R_drew)); exact Kd.R_mono (Kd.R_far (p := ⟨gb496, 2, none⟩) (Kd.R_far (p := ⟨gb496, 1, none⟩) (Kd.R_far (p := ⟨gb496, 0, none⟩) (Kd.R_far (p := ⟨gb497, 2, none⟩) (Kd.R_types (Kd.R_types HO503.out BK497.out (by decide)) BK496.out (by decide)) (fun _ hk => hk.1.2) (.slice Ao21 t504.length co21)) (fun _ hk => hk.2) (.slice Ao12 t498.length co12)) (fun _ hk => hk.2) (.slice Ao17 t501.length co17)) (fun _ hk => hk.2) (.slice Ao21 t504.length co21)) (fun _ hk => hk.1.1.2), by (with_reducible repeat (first | apply Kd.R_alloc | apply Kd.R_drewN | apply Kd.R_drew)); exact Kd.R_mono (Kd.R_far (p := ⟨gb496, 2, none⟩) (Kd.R_far (p := ⟨gb496, 1, none⟩) (Kd.R_far (p := ⟨gb496, 0, none⟩) (Kd.R_far (p := ⟨gb497, 2, none⟩) (Kd.R_types (Kd.R_types HO506.out BK497.out (by decide)) BK496.out (by decide)) (fun _ hk => hk.1.2) (.slice Ao21 t504.length co21)) (fun _ hk => hk.2) (.slice Ao12 t498.length co12)) (fun _ hk => hk.2) (.slice Ao17 t501.length co17)) (fun _ hk => hk.2) (.slice Ao21 t504.length co21)) (fun _ hk => trivial), by repeat (first | (with_reducible first | exact HB.out | apply below_alloc | apply pw_below_drewN | apply below_drew1 | refine below_set ?_ GE495.out | refine below_set ?_ GE496.out | refine below_set ?_ GE497.out) | exact HB.out)⟩

end Go.Proofs.Ytolncjkfcmbieaa.P
