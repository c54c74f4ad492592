import Derived.Test.YtpohlcjkabojcaaF0
import Derived.Test.YtpohlcjkabojcaaF1
import Derived.Test.YtpohlcjkabojcaaF3
import Derived.Test.YtpohlcjkabojcaaF7
import Derived.Test.YtpohlcjkabojcaaF10
import Derived.Test.YtpohlcjkabojcaaF13
import Derived.Test.YtpohlcjkabojcaaF17
namespace Go.Proofs.Ytpohlcjkabojcaa.P
open Go.RowKit Go.Proofs.YtpohlcjkabojcaaW.PrintWords Go.Proofs.YtpohlcjkabojcaaW.PrintLast Go.Proofs.YtpohlcjkabojcaaW.PrintMore
attribute [local go_sem] max2_int min2_int max_two min_two max_three min_three max_four min_four   -- for this text's walks alone
set_option linter.unusedVariables false
set_option linter.unusedSimpArgs false

mutual
def laws_FnExactSendOne.j0 : Nat → Int → Int → List (S95) → Bool → Bool → List (S95) → Bool → Bool → Bool → Int → List (S105) → List Int → List (S129) → Int → List (S86) → List Int → List (S130) → Option (Bool)
 | 0, _, _, _, _, _, _, _, _, _, _, _, _, _, _, _, _, _ => none
 | k + 1, x1, x2, x8, x9, x10, x12, x13, x14, x58, x636000, x636001, x636002, x636003, x663000, x663001, x663002, x663003 => if x58 = true then (some false) else ((laws_toCampus.f k x636000 x636001 x636002 x636003).bind fun bt669 => ((laws_eqCampus.f k x663000 x663001 x663002 x663003 bt669.1 bt669.2.1 bt669.2.2.1 bt669.2.2.2).bind fun t679 => (if t679 = true then ((laws_markCampus.f k x663000 x663001 x663002 x663003 1).bind fun bt680 => (if bt680.1 < 0 then (laws_FnExactSendOne.j1 k x1 x2 x8 x9 x10 x12 true x636000 x636001 x636002 x636003) else ((laws_eqHopS.f k x12 x8).bind fun t683 => (if t683 = true then (if (x13 != x9) = true then (laws_FnExactSendOne.j1 k x1 x2 x8 x9 x10 x12 true x636000 x636001 x636002 x636003) else (laws_FnExactSendOne.j1 k x1 x2 x8 x9 x10 x12 (x14 != x10) x636000 x636001 x636002 x636003)) else (laws_FnExactSendOne.j1 k x1 x2 x8 x9 x10 x12 true x636000 x636001 x636002 x636003))))) else (some false))))
def laws_FnExactSendOne.j1 : Nat → Int → Int → List (S95) → Bool → Bool → List (S95) → Bool → Int → List (S105) → List Int → List (S129) → Option (Bool)
 | 0, _, _, _, _, _, _, _, _, _, _, _ => none
 | k + 1, x1, x2, x8, x9, x10, x12, x84, x636000, x636001, x636002, x636003 => if x84 = true then (some false) else ((laws_markHopS.f k x12 1).bind fun bt684 => ((laws_heldHopS.f k bt684.2 1).bind fun t686 => (if t686 < 0 then (some false) else (if t686 = bt684.1 then ((laws_toCampus.f k x636000 x636001 x636002 x636003).bind fun bt687 => ((impl_SendOne.f k bt687.1 bt687.2.1 bt687.2.2.1 bt687.2.2.2 x1 x2).bind fun bt697 => ((laws_eqHopS.f k bt697.1 x8).bind fun t702 => (if t702 = true then (if (bt697.2.1 != x9) = true then (laws_FnExactSendOne.j2 k bt684.2 bt684.1 true) else (laws_FnExactSendOne.j2 k bt684.2 bt684.1 (bt697.2.2 != x10))) else (laws_FnExactSendOne.j2 k bt684.2 bt684.1 true))))) else (some false)))))
def laws_FnExactSendOne.j2 : Nat → List (S95) → Int → Bool → Option (Bool)
 | 0, _, _, _ => none
 | k + 1, x12, x16, x118 => if x118 = true then (some false) else ((laws_heldHopS.f k x12 1).bind fun t703 => (if t703 < 0 then (some false) else (if t703 = x16 then (some true) else (some false))))
end
def laws_FnExactSendOne.f (k : Nat) (a0_0 : Int) (l0_1 : List (S105)) (l0_2 : List Int) (l0_3 : List (S129)) (a1 : Int) (a2 : Int) : Option (Bool) := (laws_szCampus.f k a0_0 l0_1 l0_2 l0_3 1048576).bind fun t636 => (if t636 < 0 then (some true) else ((laws_toCampus.f k a0_0 l0_1 l0_2 l0_3).bind fun bt637 => ((spec_SendOne.f k bt637.1 bt637.2.1 bt637.2.2.1 bt637.2.2.2 a1 a2).bind fun bt647 => ((laws_toCampus.f k a0_0 l0_1 l0_2 l0_3).bind fun bt652 => ((impl_SendOne.f k bt652.1 bt652.2.1 bt652.2.2.1 bt652.2.2.2 a1 a2).bind fun bt663 => ((laws_eqHopS.f k bt663.1 bt647.1).bind fun t668 => (if t668 = true then (if (bt663.2.1 != bt647.2.1) = true then (laws_FnExactSendOne.j0 k a1 a2 bt647.1 bt647.2.1 bt647.2.2 bt663.1 bt663.2.1 bt663.2.2 true a0_0 l0_1 l0_2 l0_3 bt652.1 bt652.2.1 bt652.2.2.1 bt652.2.2.2) else (laws_FnExactSendOne.j0 k a1 a2 bt647.1 bt647.2.1 bt647.2.2 bt663.1 bt663.2.1 bt663.2.2 (bt663.2.2 != bt647.2.2) a0_0 l0_1 l0_2 l0_3 bt652.1 bt652.2.1 bt652.2.2.1 bt652.2.2.2)) else (laws_FnExactSendOne.j0 k a1 a2 bt647.1 bt647.2.1 bt647.2.2 bt663.1 bt663.2.1 bt663.2.2 true a0_0 l0_1 l0_2 l0_3 bt652.1 bt652.2.1 bt652.2.2.1 bt652.2.2.2))))))))
theorem laws_FnExactSendOne.mono_l : ∀ k, (∀ y0 y1 y2 y3 y4 y5 y6 y7 y8 y9 y10 y11 y12 y13 y14 y15 y16, LeO (laws_FnExactSendOne.j0 k y0 y1 y2 y3 y4 y5 y6 y7 y8 y9 y10 y11 y12 y13 y14 y15 y16) (laws_FnExactSendOne.j0 (k + 1) y0 y1 y2 y3 y4 y5 y6 y7 y8 y9 y10 y11 y12 y13 y14 y15 y16)) ∧ (∀ y0 y1 y2 y3 y4 y5 y6 y7 y8 y9 y10, LeO (laws_FnExactSendOne.j1 k y0 y1 y2 y3 y4 y5 y6 y7 y8 y9 y10) (laws_FnExactSendOne.j1 (k + 1) y0 y1 y2 y3 y4 y5 y6 y7 y8 y9 y10)) ∧ (∀ y0 y1 y2, LeO (laws_FnExactSendOne.j2 k y0 y1 y2) (laws_FnExactSendOne.j2 (k + 1) y0 y1 y2))
 | 0 => ⟨fun _ _ _ _ _ _ _ _ _ _ _ _ _ _ _ _ _ r h => by simp [laws_FnExactSendOne.j0] at h, fun _ _ _ _ _ _ _ _ _ _ _ r h => by simp [laws_FnExactSendOne.j1] at h, fun _ _ _ r h => by simp [laws_FnExactSendOne.j2] at h⟩
 | k + 1 => by
  obtain ⟨ih0, ih1, ih2⟩ := laws_FnExactSendOne.mono_l k
  refine ⟨?_, ?_, ?_⟩
  ·intro y0 y1 y2 y3 y4 y5 y6 y7 y8 y9 y10 y11 y12 y13 y14 y15 y16
   unfold laws_FnExactSendOne.j0
   repeat' first
   | (with_reducible exact ih0 _ _ _ _ _ _ _ _ _ _ _ _ _ _ _ _ _)
   | (with_reducible exact ih1 _ _ _ _ _ _ _ _ _ _ _)
   | (with_reducible exact ih2 _ _ _)
   | (with_reducible exact impl_SendOne.mono _ _ _ _ _ _ _)
   | (with_reducible exact laws_eqCampus.mono _ _ _ _ _ _ _ _ _)
   | (with_reducible exact laws_eqHopS.mono _ _ _)
   | (with_reducible exact laws_heldHopS.mono _ _ _)
   | (with_reducible exact laws_markCampus.mono _ _ _ _ _ _)
   | (with_reducible exact laws_markHopS.mono _ _ _)
   | (with_reducible exact laws_szCampus.mono _ _ _ _ _ _)
   | (with_reducible exact laws_toCampus.mono _ _ _ _ _)
   | (with_reducible exact spec_SendOne.mono _ _ _ _ _ _ _)
   | with_reducible first | exact LeO.refl _ | exact LeO.none _ | refine LeO.ite ?_ ?_ | refine LeO.bind ?_ fun _ => ?_
  ·intro y0 y1 y2 y3 y4 y5 y6 y7 y8 y9 y10
   unfold laws_FnExactSendOne.j1
   repeat' first
   | (with_reducible exact ih0 _ _ _ _ _ _ _ _ _ _ _ _ _ _ _ _ _)
   | (with_reducible exact ih1 _ _ _ _ _ _ _ _ _ _ _)
   | (with_reducible exact ih2 _ _ _)
   | (with_reducible exact impl_SendOne.mono _ _ _ _ _ _ _)
   | (with_reducible exact laws_eqCampus.mono _ _ _ _ _ _ _ _ _)
   | (with_reducible exact laws_eqHopS.mono _ _ _)
   | (with_reducible exact laws_heldHopS.mono _ _ _)
   | (with_reducible exact laws_markCampus.mono _ _ _ _ _ _)
   | (with_reducible exact laws_markHopS.mono _ _ _)
   | (with_reducible exact laws_szCampus.mono _ _ _ _ _ _)
   | (with_reducible exact laws_toCampus.mono _ _ _ _ _)
   | (with_reducible exact spec_SendOne.mono _ _ _ _ _ _ _)
   | with_reducible first | exact LeO.refl _ | exact LeO.none _ | refine LeO.ite ?_ ?_ | refine LeO.bind ?_ fun _ => ?_
  ·intro y0 y1 y2
   unfold laws_FnExactSendOne.j2
   repeat' first
   | (with_reducible exact ih0 _ _ _ _ _ _ _ _ _ _ _ _ _ _ _ _ _)
   | (with_reducible exact ih1 _ _ _ _ _ _ _ _ _ _ _)
   | (with_reducible exact ih2 _ _ _)
   | (with_reducible exact impl_SendOne.mono _ _ _ _ _ _ _)
   | (with_reducible exact laws_eqCampus.mono _ _ _ _ _ _ _ _ _)
   | (with_reducible exact laws_eqHopS.mono _ _ _)
   | (with_reducible exact laws_heldHopS.mono _ _ _)
   | (with_reducible exact laws_markCampus.mono _ _ _ _ _ _)
   | (with_reducible exact laws_markHopS.mono _ _ _)
   | (with_reducible exact laws_szCampus.mono _ _ _ _ _ _)
   | (with_reducible exact laws_toCampus.mono _ _ _ _ _)
   | (with_reducible exact spec_SendOne.mono _ _ _ _ _ _ _)
   | with_reducible first | exact LeO.refl _ | exact LeO.none _ | refine LeO.ite ?_ ?_ | refine LeO.bind ?_ fun _ => ?_
theorem laws_FnExactSendOne.mono : ∀ a0 a1 a2 a3 a4 a5 k, LeO (laws_FnExactSendOne.f k a0 a1 a2 a3 a4 a5) (laws_FnExactSendOne.f (k + 1) a0 a1 a2 a3 a4 a5) := by
 intro a0 a1 a2 a3 a4 a5 k
 obtain ⟨ih0, ih1, ih2⟩ := laws_FnExactSendOne.mono_l k
 unfold laws_FnExactSendOne.f
 repeat' first
   | (with_reducible exact ih0 _ _ _ _ _ _ _ _ _ _ _ _ _ _ _ _ _)
   | (with_reducible exact ih1 _ _ _ _ _ _ _ _ _ _ _)
   | (with_reducible exact ih2 _ _ _)
   | (with_reducible exact impl_SendOne.mono _ _ _ _ _ _ _)
   | (with_reducible exact laws_eqCampus.mono _ _ _ _ _ _ _ _ _)
   | (with_reducible exact laws_eqHopS.mono _ _ _)
   | (with_reducible exact laws_heldHopS.mono _ _ _)
   | (with_reducible exact laws_markCampus.mono _ _ _ _ _ _)
   | (with_reducible exact laws_markHopS.mono _ _ _)
   | (with_reducible exact laws_szCampus.mono _ _ _ _ _ _)
   | (with_reducible exact laws_toCampus.mono _ _ _ _ _)
   | (with_reducible exact spec_SendOne.mono _ _ _ _ _ _ _)
   | with_reducible first | exact LeO.refl _ | exact LeO.none _ | refine LeO.ite ?_ ?_ | refine LeO.bind ?_ fun _ => ?_
theorem laws_FnExactSendOne.ts_ {W : World} {k b b' : Nat} {Q : Prop} {L1 L2 : List Nat} (x : b ≤ k ∧ k < W.heap.size ∧ ∃ q, q ∈ L1 ∧ ∃ cells, W.heap[k]? = some (.cells cells q (0, 0))) (y : Q ∧ b' ≤ k ∧ k < W.heap.size ∧ ∃ q, q ∈ L2 ∧ ∃ cells, W.heap[k]? = some (.cells cells q (0, 0))) (hd : ∀ q, q ∈ L1 → q ∉ L2) : False := by
 obtain ⟨_, _, q, hq, cs, hc⟩ := x
 obtain ⟨_, _, _, q', hq', cs', hc'⟩ := y
 rw [hc] at hc'
 injection hc' with hc'
 injection hc' with _ hc'
 subst hc'
 exact hd _ hq hq'
theorem laws_FnExactSendOne.tb_ {W : World} {k b' t : Nat} {cs : Array Value} {Q : Prop} {L2 : List Nat} (x : W.heap[k]? = some (.cells cs t (0, 0))) (y : Q ∧ b' ≤ k ∧ k < W.heap.size ∧ ∃ q, q ∈ L2 ∧ ∃ cells, W.heap[k]? = some (.cells cells q (0, 0))) (hd : t ∉ L2) : False := by
 obtain ⟨_, _, _, q', hq', cs', hc'⟩ := y
 rw [x] at hc'
 injection hc' with hc'
 injection hc' with _ hc'
 subst hc'
 exact hd hq'
set_option maxHeartbeats 8000000 in
set_option maxRecDepth 100000 in
theorem laws_FnExactSendOne.calls (k : Nat) (a0_0 : Int) (A0_1 : Option Addr) (c0_1 : Nat) (l0_1 : List (S105)) (A0_2 : Option Addr) (c0_2 : Nat) (l0_2 : List Int) (A0_3 : Option Addr) (c0_3 : Nat) (l0_3 : List (S129)) (a1 : Int) (a2 : Int) (r : Bool) (w : World) (hr0_1 : Kd.C k105 w A0_1 l0_1.length l0_1) (hc0_1 : l0_1.length ≤ c0_1) (hr0_2 : Kd.C (Kd.int .i64) w A0_2 l0_2.length l0_2) (hc0_2 : l0_2.length ≤ c0_2) (hr0_3 : Kd.C k129 w A0_3 l0_3.length l0_3) (hc0_3 : l0_3.length ≤ c0_3) (h : laws_FnExactSendOne.f k a0_0 l0_1 l0_2 l0_3 a1 a2 = some r) :
  Calls Try.prog 5 #[.agg #[.int .i64 a0_0, .slice A0_1 l0_1.length c0_1, .slice A0_2 l0_2.length c0_2, .slice A0_3 l0_3.length c0_3], .int .i64 a1, .int .i64 a2] w fun e w' => e = .returned (.bool r) ∧ Below w.heap.size w w' := by
 have hu26 := Try.underlying26
 have hu33 := Try.underlying33
 have HR0_1 := Aside0.mk hr0_1
 have HC0_1 := Aside0.mk hc0_1
 clear hr0_1 hc0_1
 have HR0_2 := Aside0.mk hr0_2
 have HC0_2 := Aside0.mk hc0_2
 clear hr0_2 hc0_2
 have HR0_3 := Aside0.mk hr0_3
 have HC0_3 := Aside0.mk hc0_3
 clear hr0_3 hc0_3
 have HB := Aside0.mk (Below.refl w.heap.size w)
 have H : ((laws_szCampus.f k a0_0 l0_1 l0_2 l0_3 1048576).bind fun t636 => (if t636 < 0 then (some true) else ((laws_toCampus.f k a0_0 l0_1 l0_2 l0_3).bind fun bt637 => ((spec_SendOne.f k bt637.1 bt637.2.1 bt637.2.2.1 bt637.2.2.2 a1 a2).bind fun bt647 => ((laws_toCampus.f k a0_0 l0_1 l0_2 l0_3).bind fun bt652 => ((impl_SendOne.f k bt652.1 bt652.2.1 bt652.2.2.1 bt652.2.2.2 a1 a2).bind fun bt663 => ((laws_eqHopS.f k bt663.1 bt647.1).bind fun t668 => (if t668 = true then (if (bt663.2.1 != bt647.2.1) = true then (laws_FnExactSendOne.j0 k a1 a2 bt647.1 bt647.2.1 bt647.2.2 bt663.1 bt663.2.1 bt663.2.2 true a0_0 l0_1 l0_2 l0_3 bt652.1 bt652.2.1 bt652.2.2.1 bt652.2.2.2) else (laws_FnExactSendOne.j0 k a1 a2 bt647.1 bt647.2.1 bt647.2.2 bt663.1 bt663.2.1 bt663.2.2 (bt663.2.2 != bt647.2.2) a0_0 l0_1 l0_2 l0_3 bt652.1 bt652.2.1 bt652.2.2.1 bt652.2.2.2)) else (laws_FnExactSendOne.j0 k a1 a2 bt647.1 bt647.2.1 bt647.2.2 bt663.1 bt663.2.1 bt663.2.2 true a0_0 l0_1 l0_2 l0_3 bt652.1 bt652.2.1 bt652.2.2.1 bt652.2.2.2))))))))) = some r := h
 clear h
 replace H := Option.bind_eq_some_iff.mp H
 obtain ⟨t636, A40, H⟩ := H
 replace H : (if t636 < 0 then (some true) else ((laws_toCampus.f k a0_0 l0_1 l0_2 l0_3).bind fun bt637 => ((spec_SendOne.f k bt637.1 bt637.2.1 bt637.2.2.1 bt637.2.2.2 a1 a2).bind fun bt647 => ((laws_toCampus.f k a0_0 l0_1 l0_2 l0_3).bind fun bt652 => ((impl_SendOne.f k bt652.1 bt652.2.1 bt652.2.2.1 bt652.2.2.2 a1 a2).bind fun bt663 => ((laws_eqHopS.f k bt663.1 bt647.1).bind fun t668 => (if t668 = true then (if (bt663.2.1 != bt647.2.1) = true then (laws_FnExactSendOne.j0 k a1 a2 bt647.1 bt647.2.1 bt647.2.2 bt663.1 bt663.2.1 bt663.2.2 true a0_0 l0_1 l0_2 l0_3 bt652.1 bt652.2.1 bt652.2.2.1 bt652.2.2.2) else (laws_FnExactSendOne.j0 k a1 a2 bt647.1 bt647.2.1 bt647.2.2 bt663.1 bt663.2.1 bt663.2.2 (bt663.2.2 != bt647.2.2) a0_0 l0_1 l0_2 l0_3 bt652.1 bt652.2.1 bt652.2.2.1 bt652.2.2.2)) else (laws_FnExactSendOne.j0 k a1 a2 bt647.1 bt647.2.1 bt647.2.2 bt663.1 bt663.2.1 bt663.2.2 true a0_0 l0_1 l0_2 l0_3 bt652.1 bt652.2.1 bt652.2.2.1 bt652.2.2.2)))))))) = some r := H
 have A4 := Aside0.mk A40
 clear A40
 by_cases c5 : t636 < 0
 ·rw [if_pos c5] at H
  have c5b0 : decide (t636 < 0) = true := decide_eq_true c5
  clear c5
  obtain rfl := Option.some.inj H
  go_enter Try.func5, Try.ntmps5
  go_wp2_with (first | ((with_reducible refine gate_dst (N := 3) rfl ?_); refine box_event ?hg (N := 3) ?hd (cs := #[.int .i64 a0_0, .slice A0_1 l0_1.length c0_1, .slice A0_2 l0_2.length c0_2, .slice A0_3 l0_3.length c0_3]) (t := 26) ?hr ?_; (case hd => rfl); (case hg => rfl); (case hr => first | (go_simp; done) | (go_simp; rfl)); intro gb635 hg w6 hbox hb; have BK635 := Aside0.mk (hbox); have GW635 := gw_ hg HB; have GE635 := gw_ hg HB; replace HB := bst_ HB hb; clear hb hbox hg; obtain ⟨hcz7_0, hcz7_1, hcz7_2, hcz7_3⟩ := bcs4_ BK635; have hfz7_0 := blk_frozen BK635.out 0; have hfz7_1 := blk_frozen BK635.out 1; have hfz7_2 := blk_frozen BK635.out 2; have hfz7_3 := blk_frozen BK635.out 3) | ((with_reducible refine gate_callee (f := 11) rfl ?_); refine goesL_ (some 23) rfl rfl Try.func11 (by kernel_rfl) rfl #[.agg #[.int .i64 a0_0, .slice A0_1 l0_1.length c0_1, .slice A0_2 l0_2.length c0_2, .slice A0_3 l0_3.length c0_3], .int .i64 1048576] rfl tm_ ?_; (with_reducible refine (laws_szCampus.calls k a0_0 _ _ l0_1 _ _ l0_2 _ _ l0_3 1048576 t636 _ ?side1 ?side2 ?side3 ?side4 ?side5 ?side6 A4.out).mono ?_); (case side1 => exact cb_ HR0_1 HB); (case side2 => exact HC0_1.out); (case side3 => exact cb_ HR0_2 HB); (case side4 => exact HC0_2.out); (case side5 => exact cb_ HR0_3 HB); (case side6 => exact HC0_3.out); rintro e w8 ⟨rfl, hb⟩; refine ⟨_, rfl, ?_⟩; replace BK635 := bb_ BK635 hb; replace HB := bst_ HB hb; clear hb))
  go_ret
  exact ⟨by first | rfl | (simp [errW_none, errW_some] <;> rfl) | (simp [*, errW_none, errW_some] <;> rfl), hB HB⟩
 rw [if_neg c5] at H
 have c5b0 : decide (t636 < 0) = false := decide_eq_false c5
 clear c5
 replace H := Option.bind_eq_some_iff.mp H
 obtain ⟨⟨t637, t638, t641, t644⟩, A90, H⟩ := H
 replace H : ((spec_SendOne.f k t637 t638 t641 t644 a1 a2).bind fun bt647 => ((laws_toCampus.f k a0_0 l0_1 l0_2 l0_3).bind fun bt652 => ((impl_SendOne.f k bt652.1 bt652.2.1 bt652.2.2.1 bt652.2.2.2 a1 a2).bind fun bt663 => ((laws_eqHopS.f k bt663.1 bt647.1).bind fun t668 => (if t668 = true then (if (bt663.2.1 != bt647.2.1) = true then (laws_FnExactSendOne.j0 k a1 a2 bt647.1 bt647.2.1 bt647.2.2 bt663.1 bt663.2.1 bt663.2.2 true a0_0 l0_1 l0_2 l0_3 bt652.1 bt652.2.1 bt652.2.2.1 bt652.2.2.2) else (laws_FnExactSendOne.j0 k a1 a2 bt647.1 bt647.2.1 bt647.2.2 bt663.1 bt663.2.1 bt663.2.2 (bt663.2.2 != bt647.2.2) a0_0 l0_1 l0_2 l0_3 bt652.1 bt652.2.1 bt652.2.2.1 bt652.2.2.2)) else (laws_FnExactSendOne.j0 k a1 a2 bt647.1 bt647.2.1 bt647.2.2 bt663.1 bt663.2.1 bt663.2.2 true a0_0 l0_1 l0_2 l0_3 bt652.1 bt652.2.1 bt652.2.2.1 bt652.2.2.2)))))) = some r := H
 have A9 := Aside0.mk A90
 clear A90
 replace H := Option.bind_eq_some_iff.mp H
 obtain ⟨⟨t647, t650, t651⟩, A100, H⟩ := H
 replace H : ((laws_toCampus.f k a0_0 l0_1 l0_2 l0_3).bind fun bt652 => ((impl_SendOne.f k bt652.1 bt652.2.1 bt652.2.2.1 bt652.2.2.2 a1 a2).bind fun bt663 => ((laws_eqHopS.f k bt663.1 t647).bind fun t668 => (if t668 = true then (if (bt663.2.1 != t650) = true then (laws_FnExactSendOne.j0 k a1 a2 t647 t650 t651 bt663.1 bt663.2.1 bt663.2.2 true a0_0 l0_1 l0_2 l0_3 bt652.1 bt652.2.1 bt652.2.2.1 bt652.2.2.2) else (laws_FnExactSendOne.j0 k a1 a2 t647 t650 t651 bt663.1 bt663.2.1 bt663.2.2 (bt663.2.2 != t651) a0_0 l0_1 l0_2 l0_3 bt652.1 bt652.2.1 bt652.2.2.1 bt652.2.2.2)) else (laws_FnExactSendOne.j0 k a1 a2 t647 t650 t651 bt663.1 bt663.2.1 bt663.2.2 true a0_0 l0_1 l0_2 l0_3 bt652.1 bt652.2.1 bt652.2.2.1 bt652.2.2.2))))) = some r := H
 have A10 := Aside0.mk A100
 clear A100
 replace H := Option.bind_eq_some_iff.mp H
 obtain ⟨⟨t652, t653, t656, t659⟩, A110, H⟩ := H
 replace H : ((impl_SendOne.f k t652 t653 t656 t659 a1 a2).bind fun bt663 => ((laws_eqHopS.f k bt663.1 t647).bind fun t668 => (if t668 = true then (if (bt663.2.1 != t650) = true then (laws_FnExactSendOne.j0 k a1 a2 t647 t650 t651 bt663.1 bt663.2.1 bt663.2.2 true a0_0 l0_1 l0_2 l0_3 t652 t653 t656 t659) else (laws_FnExactSendOne.j0 k a1 a2 t647 t650 t651 bt663.1 bt663.2.1 bt663.2.2 (bt663.2.2 != t651) a0_0 l0_1 l0_2 l0_3 t652 t653 t656 t659)) else (laws_FnExactSendOne.j0 k a1 a2 t647 t650 t651 bt663.1 bt663.2.1 bt663.2.2 true a0_0 l0_1 l0_2 l0_3 t652 t653 t656 t659)))) = some r := H
 have A11 := Aside0.mk A110
 clear A110
 replace H := Option.bind_eq_some_iff.mp H
 obtain ⟨⟨t663, t666, t667⟩, A120, H⟩ := H
 replace H : ((laws_eqHopS.f k t663 t647).bind fun t668 => (if t668 = true then (if (t666 != t650) = true then (laws_FnExactSendOne.j0 k a1 a2 t647 t650 t651 t663 t666 t667 true a0_0 l0_1 l0_2 l0_3 t652 t653 t656 t659) else (laws_FnExactSendOne.j0 k a1 a2 t647 t650 t651 t663 t666 t667 (t667 != t651) a0_0 l0_1 l0_2 l0_3 t652 t653 t656 t659)) else (laws_FnExactSendOne.j0 k a1 a2 t647 t650 t651 t663 t666 t667 true a0_0 l0_1 l0_2 l0_3 t652 t653 t656 t659))) = some r := H
 have A12 := Aside0.mk A120
 clear A120
 have HC13 := Aside0.mk H
 clear H
 go_enter Try.func5, Try.ntmps5
 go_upto_region 8 with (first | ((with_reducible refine gate_dst (N := 3) rfl ?_); refine box_event ?hg (N := 3) ?hd (cs := #[.int .i64 a0_0, .slice A0_1 l0_1.length c0_1, .slice A0_2 l0_2.length c0_2, .slice A0_3 l0_3.length c0_3]) (t := 26) ?hr ?_; (case hd => rfl); (case hg => rfl); (case hr => first | (go_simp; done) | (go_simp; rfl)); intro gb635 hg w14 hbox hb; have BK635 := Aside0.mk (hbox); have GW635 := gw_ hg HB; have GE635 := gw_ hg HB; replace HB := bst_ HB hb; clear hb hbox hg; obtain ⟨hcz15_0, hcz15_1, hcz15_2, hcz15_3⟩ := bcs4_ BK635; have hfz15_0 := blk_frozen BK635.out 0; have hfz15_1 := blk_frozen BK635.out 1; have hfz15_2 := blk_frozen BK635.out 2; have hfz15_3 := blk_frozen BK635.out 3) | ((with_reducible refine gate_callee (f := 11) rfl ?_); refine goesL_ (some 23) rfl rfl Try.func11 (by kernel_rfl) rfl #[.agg #[.int .i64 a0_0, .slice A0_1 l0_1.length c0_1, .slice A0_2 l0_2.length c0_2, .slice A0_3 l0_3.length c0_3], .int .i64 1048576] rfl tm_ ?_; (with_reducible refine (laws_szCampus.calls k a0_0 _ _ l0_1 _ _ l0_2 _ _ l0_3 1048576 t636 _ ?side1 ?side2 ?side3 ?side4 ?side5 ?side6 A4.out).mono ?_); (case side1 => exact cb_ HR0_1 HB); (case side2 => exact HC0_1.out); (case side3 => exact cb_ HR0_2 HB); (case side4 => exact HC0_2.out); (case side5 => exact cb_ HR0_3 HB); (case side6 => exact HC0_3.out); rintro e w16 ⟨rfl, hb⟩; refine ⟨_, rfl, ?_⟩; replace BK635 := bb_ BK635 hb; replace HB := bst_ HB hb; clear hb; obtain ⟨hcz17_0, hcz17_1, hcz17_2, hcz17_3⟩ := bcs4_ BK635; have hfz17_0 := blk_frozen BK635.out 0; have hfz17_1 := blk_frozen BK635.out 1; have hfz17_2 := blk_frozen BK635.out 2; have hfz17_3 := blk_frozen BK635.out 3) | ((with_reducible refine gate_callee (f := 13) rfl ?_); refine goesL_ (some 28) rfl rfl Try.func13 (by kernel_rfl) rfl #[.agg #[.int .i64 a0_0, .slice A0_1 l0_1.length c0_1, .slice A0_2 l0_2.length c0_2, .slice A0_3 l0_3.length c0_3]] rfl tm_ ?_; (with_reducible refine (laws_toCampus.calls k a0_0 _ _ l0_1 _ _ l0_2 _ _ l0_3 t637 t638 t641 t644 _ ?side1 ?side2 ?side3 ?side4 ?side5 ?side6 A9.out).mono ?_); (case side1 => exact cb_ HR0_1 HB); (case side2 => exact HC0_1.out); (case side3 => exact cb_ HR0_2 HB); (case side4 => exact HC0_2.out); (case side5 => exact cb_ HR0_3 HB); (case side6 => exact HC0_3.out); rintro e w18 ⟨v639, v642, v645, rfl, ho0, ho1, ho2, hb⟩; refine ⟨_, rfl, ?_⟩; have HO640 := Aside0.mk (Kd.R_lower ho0 (below_size (hB HB))); have HO643 := Aside0.mk (Kd.R_lower ho1 (below_size (hB HB))); have HO646 := Aside0.mk (Kd.S_lower ho2 (below_size (hB HB))); replace BK635 := bb_ BK635 hb; replace HB := bst_ HB hb; clear hb ho0 ho1 ho2; obtain ⟨Ao19, co19, eo19⟩ := Kd.R_slice HO640.out; subst eo19; obtain ⟨Ao20, co20, eo20⟩ := Kd.R_slice HO643.out; subst eo20; obtain ⟨Ao21, co21, eo21⟩ := Kd.S_slice HO646.out; subst eo21) | ((with_reducible refine gate_callee (f := 22) rfl ?_); refine goesL_ (some 31) rfl rfl Try.func22 (by kernel_rfl) rfl #[.agg #[.int .i64 t637, .slice Ao19 t638.length co19, .slice Ao20 t641.length co20, .slice Ao21 t644.length co21], .int .i64 a1, .int .i64 a2] rfl tm_ ?_; (with_reducible refine (spec_SendOne.calls k t637 _ _ t638 _ _ t641 _ _ t644 a1 a2 t647 t650 t651 _ ?side1 ?side2 ?side3 ?side4 ?side5 ?side6 A10.out).mono ?_); (case side1 => exact ca (Kd.R_reads' HO640.out).2.2); (case side2 => exact (Kd.R_reads' HO640.out).2.1); (case side3 => exact ca (Kd.R_reads' HO643.out).2.2); (case side4 => exact (Kd.R_reads' HO643.out).2.1); (case side5 => exact ca (Kd.S_reads' HO646.out).2.2); (case side6 => exact (Kd.S_reads' HO646.out).2.1); rintro e w22 ⟨v648, rfl, ho0, hb⟩; refine ⟨_, rfl, ?_⟩; have HO649 := Aside0.mk (Kd.R_lower ho0 (below_size (hB HB))); replace HO640 := rb_ HO640 hb; replace HO643 := rb_ HO643 hb; replace HO646 := Aside0.mk (Kd.S_below (sa HO646.out) hb); replace BK635 := bb_ BK635 hb; replace HB := bst_ HB hb; clear hb ho0; obtain ⟨hcz23_0, hcz23_1, hcz23_2, hcz23_3⟩ := bcs4_ BK635; have hfz23_0 := blk_frozen BK635.out 0; have hfz23_1 := blk_frozen BK635.out 1; have hfz23_2 := blk_frozen BK635.out 2; have hfz23_3 := blk_frozen BK635.out 3) | ((with_reducible refine gate_callee (f := 13) rfl ?_); refine goesL_ (some 36) rfl rfl Try.func13 (by kernel_rfl) rfl #[.agg #[.int .i64 a0_0, .slice A0_1 l0_1.length c0_1, .slice A0_2 l0_2.length c0_2, .slice A0_3 l0_3.length c0_3]] rfl tm_ ?_; (with_reducible refine (laws_toCampus.calls k a0_0 _ _ l0_1 _ _ l0_2 _ _ l0_3 t652 t653 t656 t659 _ ?side1 ?side2 ?side3 ?side4 ?side5 ?side6 A11.out).mono ?_); (case side1 => exact cb_ HR0_1 HB); (case side2 => exact HC0_1.out); (case side3 => exact cb_ HR0_2 HB); (case side4 => exact HC0_2.out); (case side5 => exact cb_ HR0_3 HB); (case side6 => exact HC0_3.out); rintro e w24 ⟨v654, v657, v660, rfl, ho0, ho1, ho2, hb⟩; refine ⟨_, rfl, ?_⟩; have HO655 := Aside0.mk (Kd.R_lower (Kd.R_new' ho0 (rl_ HO640)) (below_size (hB HB))); have HO658 := Aside0.mk (Kd.R_lower (Kd.R_new' ho1 (rl_ HO643)) (below_size (hB HB))); have HO661 := Aside0.mk (Kd.S_lower (Kd.S_new' (Kd.S_new' ho2 (rl_ HO643)) (Kd.S_lt (sa HO646.out))) (below_size (hB HB))); replace HO640 := re_ HO640 ho0 hb; replace HO643 := re_ HO643 ho1 hb; replace HO646 := Aside0.mk (Kd.S_mono (Kd.S_told (Kd.S_told (Kd.S_old (sa HO646.out) hb) (Kd.R_base ho1)) (Kd.S_base ho2)) (fun _ h_ => h_.1)); replace HO649 := rb_ HO649 hb; replace BK635 := bb_ BK635 hb; replace HB := bst_ HB hb; clear hb ho0 ho1 ho2) | ((with_reducible refine gate_dst (N := 11) rfl ?_); refine box_event ?hg (N := 11) ?hd (cs := #[.int .i64 0, .slice none 0 0, .slice none 0 0, .slice none 0 0]) (t := 33) ?hr ?_; (case hd => rfl); (case hg => rfl); (case hr => first | (go_simp; done) | (go_simp; rfl)); intro gb662 hg w25 hbox hb; have BK662 := Aside0.mk (hbox); have GW662 := gw_ hg HB; have GE662 := gw_ hg HB; have NB635_662 := nl_ hg BK635; have NB662_635 := ng_ hg BK635; replace HO640 := rb_ HO640 hb; replace HO643 := rb_ HO643 hb; replace HO646 := Aside0.mk (Kd.S_below (sa HO646.out) hb); replace HO649 := rb_ HO649 hb; replace HO655 := rb_ HO655 hb; replace HO658 := rb_ HO658 hb; replace HO661 := Aside0.mk (Kd.S_below (sa HO661.out) hb); replace BK635 := bb_ BK635 hb; replace HB := bst_ HB hb; clear hb hbox hg; have hnb26 := NB662_635.out; have hnc26 := NB635_662.out; obtain ⟨hcz27_0, hcz27_1, hcz27_2, hcz27_3⟩ := bcs4_ BK662; have hfz27_0 := blk_frozen BK662.out 0; have hfz27_1 := blk_frozen BK662.out 1; have hfz27_2 := blk_frozen BK662.out 2; have hfz27_3 := blk_frozen BK662.out 3; obtain ⟨Ao28, co28, eo28⟩ := Kd.R_slice HO655.out; subst eo28; obtain ⟨Ao29, co29, eo29⟩ := Kd.R_slice HO658.out; subst eo29; obtain ⟨Ao30, co30, eo30⟩ := Kd.S_slice HO661.out; subst eo30) | ((with_reducible refine gate_callee (f := 23) rfl ?_); refine goesL_ (some 41) rfl rfl Try.func23 (by kernel_rfl) rfl #[.agg #[.int .i64 t652, .slice Ao28 t653.length co28, .slice Ao29 t656.length co29, .slice Ao30 t659.length co30], .int .i64 a1, .int .i64 a2] rfl tm_ ?_; (with_reducible refine (impl_SendOne.calls k t652 _ _ t653 _ _ t656 _ _ t659 a1 a2 t663 t666 t667 _ ?side1 ?side2 ?side3 ?side4 ?side5 ?side6 A12.out).mono ?_); (case side1 => exact rr_ (fm4_ HO655 BK662)); (case side2 => exact (Kd.R_reads' HO655.out).2.1); (case side3 => exact rr_ (fm4_ HO658 BK662)); (case side4 => exact (Kd.R_reads' HO658.out).2.1); (case side5 => refine (Kd.S_reads' (e := 130) (base := w.heap.size) (ok := fun k_ => ((no_ (.slice Ao29 t656.length co29) k_ ∧ no_ (.slice Ao20 t641.length co20) k_) ∧ no_ (.slice Ao21 t644.length co21) k_)) (n := t659.length) (c := co30) ?_).2.2; exact (by (with_reducible repeat (first | apply Kd.S_alloc | apply Kd.S_drewN | apply Kd.S_drew)); exact (Kd.S_mono (Kd.S_far (p := ⟨gb662, 3, none⟩) (Kd.S_far (p := ⟨gb662, 2, none⟩) (Kd.S_far (p := ⟨gb662, 1, none⟩) (Kd.S_far (p := ⟨gb662, 0, none⟩) (Kd.S_types HO661.out BK662.out (by decide)) (fun _ hk => hk.2) (.int .i64 t652)) (fun _ hk => hk.2) (.slice Ao28 t653.length co28)) (fun _ hk => hk.2) (.slice Ao29 t656.length co29)) (fun _ hk => hk.2) (.slice Ao30 t659.length co30)) (fun _ h_ => h_.1)))); (case side6 => exact (Kd.S_reads' HO661.out).2.1); rintro e w31 ⟨v664, rfl, ho0, hb⟩; refine ⟨_, rfl, ?_⟩; have HO665 := Aside0.mk (Kd.R_lower (Kd.R_new' ho0 (Kd.R_lt (ra (fm4_ HO649 BK662)))) (below_size (hB HB))); replace HO640 := rb4_ HO640 BK662 hb; replace HO643 := rb4_ HO643 BK662 hb; replace HO646 := Aside0.mk (Kd.S_below (by (with_reducible repeat (first | apply Kd.S_alloc | apply Kd.S_drewN | apply Kd.S_drew)); exact (Kd.S_mono (Kd.S_far (p := ⟨gb662, 3, none⟩) (Kd.S_far (p := ⟨gb662, 2, none⟩) (Kd.S_far (p := ⟨gb662, 1, none⟩) (Kd.S_far (p := ⟨gb662, 0, none⟩) (Kd.S_types HO646.out BK662.out (by decide)) (fun _ hk => hk.2) (.int .i64 t652)) (fun _ hk => hk.2) (.slice Ao28 t653.length co28)) (fun _ hk => hk.2) (.slice Ao29 t656.length co29)) (fun _ hk => hk.2) (.slice Ao30 t659.length co30)) (fun _ h_ => h_.1))) hb); replace HO649 := Aside0.mk (Kd.R_elder' (ra (fm4_ HO649 BK662)) (Kd.R_base ho0) hb); replace HO655 := rb4_ HO655 BK662 hb; replace HO658 := rb4_ HO658 BK662 hb; replace HO661 := Aside0.mk (Kd.S_below (by (with_reducible repeat (first | apply Kd.S_alloc | apply Kd.S_drewN | apply Kd.S_drew)); exact (Kd.S_mono (Kd.S_far (p := ⟨gb662, 3, none⟩) (Kd.S_far (p := ⟨gb662, 2, none⟩) (Kd.S_far (p := ⟨gb662, 1, none⟩) (Kd.S_far (p := ⟨gb662, 0, none⟩) (Kd.S_types HO661.out BK662.out (by decide)) (fun _ hk => hk.2) (.int .i64 t652)) (fun _ hk => hk.2) (.slice Ao28 t653.length co28)) (fun _ hk => hk.2) (.slice Ao29 t656.length co29)) (fun _ hk => hk.2) (.slice Ao30 t659.length co30)) (fun _ h_ => h_.1))) hb); replace BK635 := Aside0.mk (blk_below (bx BK635) hb); replace BK662 := Aside0.mk (blk_below (g := gb662) (o := .cells #[.int .i64 t652, .slice Ao28 t653.length co28, .slice Ao29 t656.length co29, .slice Ao30 t659.length co30] 33 (0, 0)) (by (with_reducible repeat (first | refine blk_drewN ?_ _ | refine blk_drew ?_ | refine blk_alloc ?_ _)); refine blk_put (cs := #[.int .i64 t652, .slice Ao28 t653.length co28, .slice Ao29 t656.length co29, .slice none 0 0]) ?_ 3 _ rfl; (with_reducible repeat (first | refine blk_drewN ?_ _ | refine blk_drew ?_ | refine blk_alloc ?_ _)); refine blk_put (cs := #[.int .i64 t652, .slice Ao28 t653.length co28, .slice none 0 0, .slice none 0 0]) ?_ 2 _ rfl; (with_reducible repeat (first | refine blk_drewN ?_ _ | refine blk_drew ?_ | refine blk_alloc ?_ _)); refine blk_put (cs := #[.int .i64 t652, .slice none 0 0, .slice none 0 0, .slice none 0 0]) ?_ 1 _ rfl; (with_reducible repeat (first | refine blk_drewN ?_ _ | refine blk_drew ?_ | refine blk_alloc ?_ _)); refine blk_put (cs := #[.int .i64 0, .slice none 0 0, .slice none 0 0, .slice none 0 0]) ?_ 0 _ rfl; (with_reducible repeat (first | refine blk_drewN ?_ _ | refine blk_drew ?_ | refine blk_alloc ?_ _)); exact BK662.out) hb); replace HB := bst_ HB hb; clear hb ho0))
 (try simp only [Act.put, List.setIfInBounds_toArray, List.set_cons_zero, List.set_cons_succ])
 go_cut [58] (fun v58 wc => ∃ (kq : Nat) (x58_12 : Bool), v58 = .bool x58_12 ∧ Aside0 (laws_FnExactSendOne.j0 kq a1 a2 t647 t650 t651 t663 t666 t667 x58_12 a0_0 l0_1 l0_2 l0_3 t652 t653 t656 t659 = some r) ∧ Aside0 (kq ≤ k) ∧ Aside0 (Kd.R k95 95 wc w.heap.size (fun k_ => no_ v664 k_) v648 t647) ∧ Aside0 (Kd.R k95 95 wc w.heap.size (fun k_ => no_ v648 k_) v664 t663) ∧ Aside0 (Kd.R k86 86 wc w.heap.size (fun _ => True) (.slice Ao28 t653.length co28) t653) ∧ Aside0 (Kd.R (Kd.int .i64) 3 wc w.heap.size (fun _ => True) (.slice Ao29 t656.length co29) t656) ∧ Aside0 (Kd.S k130 130 wc w.heap.size (fun k_ => no_ (.slice Ao29 t656.length co29) k_) (.slice Ao30 t659.length co30) t659) ∧ Aside0 (wc.heap[gb635]? = some (.cells #[.int .i64 a0_0, (.slice A0_1 l0_1.length c0_1), (.slice A0_2 l0_2.length c0_2), (.slice A0_3 l0_3.length c0_3)] 26 (0, 0))) ∧ Aside0 (wc.heap[gb662]? = some (.cells #[.int .i64 t652, (.slice Ao28 t653.length co28), (.slice Ao29 t656.length co29), (.slice Ao30 t659.length co30)] 33 (0, 0))) ∧ Aside0 (Below w.heap.size w wc))
 case first =>
  have H := HC13.out
  clear HC13
  replace H := Option.bind_eq_some_iff.mp H
  obtain ⟨t668, A320, H⟩ := H
  replace H : (if t668 = true then (if (t666 != t650) = true then (laws_FnExactSendOne.j0 k a1 a2 t647 t650 t651 t663 t666 t667 true a0_0 l0_1 l0_2 l0_3 t652 t653 t656 t659) else (laws_FnExactSendOne.j0 k a1 a2 t647 t650 t651 t663 t666 t667 (t667 != t651) a0_0 l0_1 l0_2 l0_3 t652 t653 t656 t659)) else (laws_FnExactSendOne.j0 k a1 a2 t647 t650 t651 t663 t666 t667 true a0_0 l0_1 l0_2 l0_3 t652 t653 t656 t659)) = some r := H
  have A32 := Aside0.mk A320
  clear A320
  by_cases c33 : t668 = true
  rotate_left
  ·replace c33 := Bool.eq_false_iff.mpr c33
   subst c33
   rw [if_neg (show ¬ (false = true) by decide)] at H
   have H' := Aside0.mk H
   clear H
   obtain ⟨Ao41, co41, eo41⟩ := Kd.R_slice HO665.out
   subst eo41
   obtain ⟨Ao42, co42, eo42⟩ := Kd.R_slice HO649.out
   subst eo42
   go_wp2_with (first | ((with_reducible refine gate_callee (f := 24) rfl ?_); refine goesL_ (some 47) rfl rfl Try.func24 (by kernel_rfl) rfl #[.slice Ao41 t663.length co41, .slice Ao42 t647.length co42] rfl tm_ ?_; (with_reducible refine (laws_eqHopS.calls k _ _ t663 _ _ t647 false _ ?side1 ?side2 ?side3 ?side4 A32.out).mono ?_); (case side1 => exact ca (Kd.R_reads' HO665.out).2.2); (case side2 => exact (Kd.R_reads' HO665.out).2.1); (case side3 => exact ca (Kd.R_reads' HO649.out).2.2); (case side4 => exact (Kd.R_reads' HO649.out).2.1); rintro e w43 ⟨rfl, hb⟩; refine ⟨_, rfl, ?_⟩; replace HO640 := rb_ HO640 hb; replace HO643 := rb_ HO643 hb; replace HO646 := Aside0.mk (Kd.S_below (sa HO646.out) hb); replace HO649 := rb_ HO649 hb; replace HO655 := rb_ HO655 hb; replace HO658 := rb_ HO658 hb; replace HO661 := Aside0.mk (Kd.S_below (sa HO661.out) hb); replace HO665 := rb_ HO665 hb; replace BK635 := bb_ BK635 hb; replace BK662 := bb_ BK662 hb; replace HB := bst_ HB hb; clear hb))
   go_meet
   case rel => exact ⟨_, (true), (by first | rfl | (simp; done) | (simp [*]; done)), H', ⟨by first | omega | exact Nat.le_refl _⟩, rm_ HO649 (fun _ hk => hk.2), rm_ HO665 (fun _ hk => hk.2), rm_ HO655 (fun _ hk => trivial), rm_ HO658 (fun _ hk => trivial), ⟨by (with_reducible repeat (first | apply Kd.S_alloc | apply Kd.S_drewN | apply Kd.S_drew)); exact Kd.S_mono HO661.out (fun _ hk => hk.1.1)⟩, ⟨by (with_reducible repeat (first | refine blk_drewN ?_ _ | refine blk_drew ?_ | refine blk_alloc ?_ _)); exact BK635.out⟩, ⟨by (with_reducible repeat (first | refine blk_drewN ?_ _ | refine blk_drew ?_ | refine blk_alloc ?_ _)); exact BK662.out⟩, ⟨hB HB⟩⟩
  subst c33
  rw [if_pos rfl] at H
  by_cases c34 : (t666 != t650) = true
  rotate_left
  ·rw [if_neg c34] at H
   have c34b0 : (t666 != t650) = false := by simpa using c34
   (try (have c34b1 : decide (t666 = t650) = true := by simpa using c34))
   (try (have c34b2 : (t666 == t650) = true := by simpa using c34))
   clear c34
   (first | rw [c34b0] | (simp only [i64_w, i32_w]; rw [c34b0]) | skip)
   have H' := Aside0.mk H
   clear H
   obtain ⟨Ao38, co38, eo38⟩ := Kd.R_slice HO665.out
   subst eo38
   obtain ⟨Ao39, co39, eo39⟩ := Kd.R_slice HO649.out
   subst eo39
   go_wp2_with (first | ((with_reducible refine gate_callee (f := 24) rfl ?_); refine goesL_ (some 47) rfl rfl Try.func24 (by kernel_rfl) rfl #[.slice Ao38 t663.length co38, .slice Ao39 t647.length co39] rfl tm_ ?_; (with_reducible refine (laws_eqHopS.calls k _ _ t663 _ _ t647 true _ ?side1 ?side2 ?side3 ?side4 A32.out).mono ?_); (case side1 => exact ca (Kd.R_reads' HO665.out).2.2); (case side2 => exact (Kd.R_reads' HO665.out).2.1); (case side3 => exact ca (Kd.R_reads' HO649.out).2.2); (case side4 => exact (Kd.R_reads' HO649.out).2.1); rintro e w40 ⟨rfl, hb⟩; refine ⟨_, rfl, ?_⟩; replace HO640 := rb_ HO640 hb; replace HO643 := rb_ HO643 hb; replace HO646 := Aside0.mk (Kd.S_below (sa HO646.out) hb); replace HO649 := rb_ HO649 hb; replace HO655 := rb_ HO655 hb; replace HO658 := rb_ HO658 hb; replace HO661 := Aside0.mk (Kd.S_below (sa HO661.out) hb); replace HO665 := rb_ HO665 hb; replace BK635 := bb_ BK635 hb; replace BK662 := bb_ BK662 hb; replace HB := bst_ HB hb; clear hb))
   go_meet
   case rel => exact ⟨_, ((t667 != t651)), (by first | rfl | (simp; done) | (simp [*]; done)), H', ⟨by first | omega | exact Nat.le_refl _⟩, rm_ HO649 (fun _ hk => hk.2), rm_ HO665 (fun _ hk => hk.2), rm_ HO655 (fun _ hk => trivial), rm_ HO658 (fun _ hk => trivial), ⟨by (with_reducible repeat (first | apply Kd.S_alloc | apply Kd.S_drewN | apply Kd.S_drew)); exact Kd.S_mono HO661.out (fun _ hk => hk.1.1)⟩, ⟨by (with_reducible repeat (first | refine blk_drewN ?_ _ | refine blk_drew ?_ | refine blk_alloc ?_ _)); exact BK635.out⟩, ⟨by (with_reducible repeat (first | refine blk_drewN ?_ _ | refine blk_drew ?_ | refine blk_alloc ?_ _)); exact BK662.out⟩, ⟨hB HB⟩⟩
  rw [if_pos c34] at H
  have c34b0 : (t666 != t650) = true := c34
  (try (have c34b1 : decide (t666 = t650) = false := by simpa using c34))
  (try (have c34b2 : (t666 == t650) = false := by simpa using c34))
  (try (have c34b3 : ¬ (t666 = t650) := by simpa using c34))
  clear c34
  (first | rw [c34b0] | (simp only [i64_w, i32_w]; rw [c34b0]) | skip)
  have H' := Aside0.mk H
  clear H
  obtain ⟨Ao35, co35, eo35⟩ := Kd.R_slice HO665.out
  subst eo35
  obtain ⟨Ao36, co36, eo36⟩ := Kd.R_slice HO649.out
  subst eo36
  go_wp2_with (first | ((with_reducible refine gate_callee (f := 24) rfl ?_); refine goesL_ (some 47) rfl rfl Try.func24 (by kernel_rfl) rfl #[.slice Ao35 t663.length co35, .slice Ao36 t647.length co36] rfl tm_ ?_; (with_reducible refine (laws_eqHopS.calls k _ _ t663 _ _ t647 true _ ?side1 ?side2 ?side3 ?side4 A32.out).mono ?_); (case side1 => exact ca (Kd.R_reads' HO665.out).2.2); (case side2 => exact (Kd.R_reads' HO665.out).2.1); (case side3 => exact ca (Kd.R_reads' HO649.out).2.2); (case side4 => exact (Kd.R_reads' HO649.out).2.1); rintro e w37 ⟨rfl, hb⟩; refine ⟨_, rfl, ?_⟩; replace HO640 := rb_ HO640 hb; replace HO643 := rb_ HO643 hb; replace HO646 := Aside0.mk (Kd.S_below (sa HO646.out) hb); replace HO649 := rb_ HO649 hb; replace HO655 := rb_ HO655 hb; replace HO658 := rb_ HO658 hb; replace HO661 := Aside0.mk (Kd.S_below (sa HO661.out) hb); replace HO665 := rb_ HO665 hb; replace BK635 := bb_ BK635 hb; replace BK662 := bb_ BK662 hb; replace HB := bst_ HB hb; clear hb))
  go_meet
  case rel => exact ⟨_, (true), (by first | rfl | (simp; done) | (simp [*]; done)), H', ⟨by first | omega | exact Nat.le_refl _⟩, rm_ HO649 (fun _ hk => hk.2), rm_ HO665 (fun _ hk => hk.2), rm_ HO655 (fun _ hk => trivial), rm_ HO658 (fun _ hk => trivial), ⟨by (with_reducible repeat (first | apply Kd.S_alloc | apply Kd.S_drewN | apply Kd.S_drew)); exact Kd.S_mono HO661.out (fun _ hk => hk.1.1)⟩, ⟨by (with_reducible repeat (first | refine blk_drewN ?_ _ | refine blk_drew ?_ | refine blk_alloc ?_ _)); exact BK635.out⟩, ⟨by (with_reducible repeat (first | refine blk_drewN ?_ _ | refine blk_drew ?_ | refine blk_alloc ?_ _)); exact BK662.out⟩, ⟨hB HB⟩⟩
 case rest =>
  clear HC13
  try clear c5
  try clear c5b0
  try clear hcz15_0
  try clear hcz15_1
  try clear hcz15_2
  try clear hcz15_3
  try clear hcz17_0
  try clear hcz17_1
  try clear hcz17_2
  try clear hcz17_3
  try clear hcz23_0
  try clear hcz23_1
  try clear hcz23_2
  try clear hcz23_3
  try clear hcz27_0
  try clear hcz27_1
  try clear hcz27_2
  try clear hcz27_3
  try clear hfz15_0
  try clear hfz15_1
  try clear hfz15_2
  try clear hfz15_3
  try clear hfz17_0
  try clear hfz17_1
  try clear hfz17_2
  try clear hfz17_3
  try clear hfz23_0
  try clear hfz23_1
  try clear hfz23_2
  try clear hfz23_3
  try clear hfz27_0
  try clear hfz27_1
  try clear hfz27_2
  try clear hfz27_3
  obtain ⟨kq, x58_12, rfl, HA, HJ12, HO_8, HO_12, HO_663001, HO_663002, HO_663003, BK635, BK662, HB⟩ := hcut
  cases kq with
  | zero => exact absurd HA.out (by simp [laws_FnExactSendOne.j0])
  | succ kj12 =>
   have H := HA.out
   clear HA
   simp only [laws_FnExactSendOne.j0] at H
   by_cases c44 : x58_12 = true
   ·subst c44
    rw [if_pos rfl] at H
    obtain rfl := Option.some.inj H
    go_wp2
    go_ret
    exact ⟨by first | rfl | (simp [errW_none, errW_some] <;> rfl) | (simp [*, errW_none, errW_some] <;> rfl), hB HB⟩
   replace c44 := Bool.eq_false_iff.mpr c44
   subst c44
   rw [if_neg (show ¬ (false = true) by decide)] at H
   replace H := Option.bind_eq_some_iff.mp H
   obtain ⟨⟨t669, t670, t673, t676⟩, A450, H⟩ := H
   replace H : ((laws_eqCampus.f kj12 t652 t653 t656 t659 t669 t670 t673 t676).bind fun t679 => (if t679 = true then ((laws_markCampus.f kj12 t652 t653 t656 t659 1).bind fun bt680 => (if bt680.1 < 0 then (laws_FnExactSendOne.j1 kj12 a1 a2 t647 t650 t651 t663 true a0_0 l0_1 l0_2 l0_3) else ((laws_eqHopS.f kj12 t663 t647).bind fun t683 => (if t683 = true then (if (t666 != t650) = true then (laws_FnExactSendOne.j1 kj12 a1 a2 t647 t650 t651 t663 true a0_0 l0_1 l0_2 l0_3) else (laws_FnExactSendOne.j1 kj12 a1 a2 t647 t650 t651 t663 (t667 != t651) a0_0 l0_1 l0_2 l0_3)) else (laws_FnExactSendOne.j1 kj12 a1 a2 t647 t650 t651 t663 true a0_0 l0_1 l0_2 l0_3))))) else (some false))) = some r := H
   have A45 := Aside0.mk A450
   clear A450
   replace H := Option.bind_eq_some_iff.mp H
   obtain ⟨t679, A460, H⟩ := H
   replace H : (if t679 = true then ((laws_markCampus.f kj12 t652 t653 t656 t659 1).bind fun bt680 => (if bt680.1 < 0 then (laws_FnExactSendOne.j1 kj12 a1 a2 t647 t650 t651 t663 true a0_0 l0_1 l0_2 l0_3) else ((laws_eqHopS.f kj12 t663 t647).bind fun t683 => (if t683 = true then (if (t666 != t650) = true then (laws_FnExactSendOne.j1 kj12 a1 a2 t647 t650 t651 t663 true a0_0 l0_1 l0_2 l0_3) else (laws_FnExactSendOne.j1 kj12 a1 a2 t647 t650 t651 t663 (t667 != t651) a0_0 l0_1 l0_2 l0_3)) else (laws_FnExactSendOne.j1 kj12 a1 a2 t647 t650 t651 t663 true a0_0 l0_1 l0_2 l0_3))))) else (some false)) = some r := H
   have A46 := Aside0.mk A460
   clear A460
   by_cases c47 : t679 = true
   rotate_left
   ·replace c47 := Bool.eq_false_iff.mpr c47
    subst c47
    rw [if_neg (show ¬ (false = true) by decide)] at H
    obtain rfl := Option.some.inj H
    try go_wp2
    replace HO_8 := rd_ HO_8
    replace HO_12 := rd_ HO_12
    replace HO_663001 := rd_ HO_663001
    replace HO_663002 := rd_ HO_663002
    replace HO_663003 := Aside0.mk (Kd.S_drew HO_663003.out)
    replace BK635 := bd_ BK635
    replace BK662 := bd_ BK662
    replace HB := Aside0.mk (below_drew1 HB.out)
    refine start_ (n := 5) (S := fun w' => w'.cell? ⟨gb662, 0, none⟩ = some (.int .i64 t652) ∧ w'.cell? ⟨gb662, 1, none⟩ = some (.slice Ao28 t653.length co28) ∧ w'.cell? ⟨gb662, 2, none⟩ = some (.slice Ao29 t656.length co29) ∧ w'.cell? ⟨gb662, 3, none⟩ = some (.slice Ao30 t659.length co30) ∧ w'.cell? ⟨gb635, 0, none⟩ = some (.int .i64 a0_0) ∧ w'.cell? ⟨gb635, 1, none⟩ = some (.slice A0_1 l0_1.length c0_1) ∧ w'.cell? ⟨gb635, 2, none⟩ = some (.slice A0_2 l0_2.length c0_2) ∧ w'.cell? ⟨gb635, 3, none⟩ = some (.slice A0_3 l0_3.length c0_3)) (ds := []) (bs 5 0) (by kernel_rfl) rfl rfl ⟨bc_ BK662 0, bc_ BK662 1, bc_ BK662 2, bc_ BK662 3, bc_ BK635 0, bc_ BK635 1, bc_ BK635 2, bc_ BK635 3⟩ (fun hHeld => ?_)
    generalize wc.drew = w109 at HO_8 HO_12 HO_663001 HO_663002 HO_663003 BK635 BK662 HB hHeld ⊢
    refine take_ (i := 0) (N := some 59) (v := ?_) (a' := ?_) (bs 5 1) rfl rfl (by kernel_rfl) (fun _ _ _ h => h) (Or.inl ⟨by rfl, ?_⟩) hHeld ?_ ?_
    rotate_left
    ·rintro w' ⟨s0, s1, s2, s3, s4, s5, s6, s7⟩
     go_simp
     with_reducible rfl
    rotate_left
    ·simp only [Act.put, List.setIfInBounds_toArray, List.set_cons_zero, List.set_cons_succ, i64_w, i32_w]
     rfl
    refine take_ (i := 1) (N := some 60) (v := ?_) (a' := ?_) (bs 5 3) rfl rfl (by kernel_rfl) (fun _ _ _ h => h) (Or.inl ⟨by rfl, ?_⟩) hHeld ?_ ?_
    rotate_left
    ·rintro w' ⟨s0, s1, s2, s3, s4, s5, s6, s7⟩
     go_simp
     with_reducible rfl
    rotate_left
    ·simp only [Act.put, List.setIfInBounds_toArray, List.set_cons_zero, List.set_cons_succ, i64_w, i32_w]
     rfl
    refine one_ (i := 2) (N := some 61) (bs 5 7) rfl rfl (by kernel_rfl) (by decide) (fun K hK => ?_)
    refine goes_ Try.func13 (by kernel_rfl) rfl #[.agg #[.int .i64 a0_0, .slice A0_1 l0_1.length c0_1, .slice A0_2 l0_2.length c0_2, .slice A0_3 l0_3.length c0_3]] (by rfl) rfl rfl tm_ ?_
    with_reducible refine (laws_toCampus.calls kj12 a0_0 _ _ l0_1 _ _ l0_2 _ _ l0_3 t669 t670 t673 t676 _ ?side1 ?side2 ?side3 ?side4 ?side5 ?side6 A45.out).mono ?_
    (case side1 => exact cb_ HR0_1 HB)
    (case side2 => exact HC0_1.out)
    (case side3 => exact cb_ HR0_2 HB)
    (case side4 => exact HC0_2.out)
    (case side5 => exact cb_ HR0_3 HB)
    (case side6 => exact HC0_3.out)
    rintro e w110 ⟨v671, v674, v677, rfl, ho0, ho1, ho2, hb⟩
    refine ⟨_, rfl, ?_⟩
    have HO672 := Aside0.mk (Kd.R_lower (Kd.R_new' ho0 (rl_ HO_663001)) (below_size (hB HB)))
    have HO675 := Aside0.mk (Kd.R_lower (Kd.R_new' ho1 (rl_ HO_663002)) (below_size (hB HB)))
    have HO678 := Aside0.mk (Kd.S_lower (Kd.S_new' (Kd.S_new' ho2 (rl_ HO_663002)) (Kd.S_lt (sa HO_663003.out))) (below_size (hB HB)))
    replace HO_8 := rb_ HO_8 hb
    replace HO_12 := rb_ HO_12 hb
    replace HO_663001 := re_ HO_663001 ho0 hb
    replace HO_663002 := re_ HO_663002 ho1 hb
    replace HO_663003 := Aside0.mk (Kd.S_mono (Kd.S_told (Kd.S_told (Kd.S_old (sa HO_663003.out) hb) (Kd.R_base ho1)) (Kd.S_base ho2)) (fun _ h_ => h_.1))
    replace BK635 := bb_ BK635 hb
    replace BK662 := bb_ BK662 hb
    replace HB := bst_ HB hb
    clear hb ho0 ho1 ho2
    obtain ⟨Ao111, co111, eo111⟩ := Kd.R_slice HO672.out
    subst eo111
    obtain ⟨Ao112, co112, eo112⟩ := Kd.R_slice HO675.out
    subst eo112
    obtain ⟨Ao113, co113, eo113⟩ := Kd.S_slice HO678.out
    subst eo113
    refine hK.out _ _ ⟨bc_ BK662 0, bc_ BK662 1, bc_ BK662 2, bc_ BK662 3, bc_ BK635 0, bc_ BK635 1, bc_ BK635 2, bc_ BK635 3⟩ (fun hHeld => ?_)
    clear hK K
    refine nm_ 61 ?_
    refine one_ (i := 3) (N := some 62) (bs 5 15) rfl rfl (by kernel_rfl) (by decide) (fun K hK => ?_)
    refine goes_ Try.func16 (by kernel_rfl) rfl #[.agg #[.int .i64 t652, .slice Ao28 t653.length co28, .slice Ao29 t656.length co29, .slice Ao30 t659.length co30], .agg #[.int .i64 t669, .slice Ao111 t670.length co111, .slice Ao112 t673.length co112, .slice Ao113 t676.length co113]] (by rfl) rfl rfl tm_ ?_
    with_reducible refine (laws_eqCampus.calls kj12 t652 _ _ t653 _ _ t656 _ _ t659 t669 _ _ t670 _ _ t673 _ _ t676 false _ ?side1 ?side2 ?side3 ?side4 ?side5 ?side6 ?side7 ?side8 ?side9 ?side10 ?side11 ?side12 A46.out).mono ?_
    (case side1 => exact ca (Kd.R_reads' HO_663001.out).2.2)
    (case side2 => exact (Kd.R_reads' HO_663001.out).2.1)
    (case side3 => exact ca (Kd.R_reads' HO_663002.out).2.2)
    (case side4 => exact (Kd.R_reads' HO_663002.out).2.1)
    (case side5 => exact ca (Kd.S_reads' HO_663003.out).2.2)
    (case side6 => exact (Kd.S_reads' HO_663003.out).2.1)
    (case side7 => exact ca (Kd.R_reads' HO672.out).2.2)
    (case side8 => exact (Kd.R_reads' HO672.out).2.1)
    (case side9 => exact ca (Kd.R_reads' HO675.out).2.2)
    (case side10 => exact (Kd.R_reads' HO675.out).2.1)
    (case side11 => exact ca (Kd.S_reads' HO678.out).2.2)
    (case side12 => exact (Kd.S_reads' HO678.out).2.1)
    rintro e w114 ⟨rfl, hb⟩
    refine ⟨_, rfl, ?_⟩
    replace HO_8 := rb_ HO_8 hb
    replace HO_12 := rb_ HO_12 hb
    replace HO_663001 := rb_ HO_663001 hb
    replace HO_663002 := rb_ HO_663002 hb
    replace HO_663003 := Aside0.mk (Kd.S_below (sa HO_663003.out) hb)
    replace HO672 := rb_ HO672 hb
    replace HO675 := rb_ HO675 hb
    replace HO678 := Aside0.mk (Kd.S_below (sa HO678.out) hb)
    replace BK635 := bb_ BK635 hb
    replace BK662 := bb_ BK662 hb
    replace HB := bst_ HB hb
    clear hb
    refine hK.out _ _ ⟨bc_ BK662 0, bc_ BK662 1, bc_ BK662 2, bc_ BK662 3, bc_ BK635 0, bc_ BK635 1, bc_ BK635 2, bc_ BK635 3⟩ (fun hHeld => ?_)
    clear hK K
    refine nm_ 62 ?_
    refine pure_ (i := 4) (N := some 63) (v := ?_) (a' := ?_) (bs 5 31) rfl rfl (by kernel_rfl) (fun _ _ _ h => h) (Or.inl ⟨by rfl, ?_⟩) ?_ ?_
    rotate_left
    ·intro w'
     go_simp
     with_reducible rfl
    rotate_left
    ·simp only [Act.put, List.setIfInBounds_toArray, List.set_cons_zero, List.set_cons_succ, i64_w, i32_w]
     rfl
    refine done_ (by kernel_rfl) ?_
    try go_wp2
    go_ret
    exact ⟨by first | rfl | (simp [errW_none, errW_some] <;> rfl) | (simp [*, errW_none, errW_some] <;> rfl), hB HB⟩
   subst c47
   rw [if_pos rfl] at H
   replace H := Option.bind_eq_some_iff.mp H
   obtain ⟨⟨t680, t681, t682⟩, A480, H⟩ := H
   replace H : (if t680 < 0 then (laws_FnExactSendOne.j1 kj12 a1 a2 t647 t650 t651 t663 true a0_0 l0_1 l0_2 l0_3) else ((laws_eqHopS.f kj12 t663 t647).bind fun t683 => (if t683 = true then (if (t666 != t650) = true then (laws_FnExactSendOne.j1 kj12 a1 a2 t647 t650 t651 t663 true a0_0 l0_1 l0_2 l0_3) else (laws_FnExactSendOne.j1 kj12 a1 a2 t647 t650 t651 t663 (t667 != t651) a0_0 l0_1 l0_2 l0_3)) else (laws_FnExactSendOne.j1 kj12 a1 a2 t647 t650 t651 t663 true a0_0 l0_1 l0_2 l0_3)))) = some r := H
   have A48 := Aside0.mk A480
   clear A480
   have HC49 := Aside0.mk H
   clear H
   try go_wp2
   replace HO_8 := rd_ HO_8
   replace HO_12 := rd_ HO_12
   replace HO_663001 := rd_ HO_663001
   replace HO_663002 := rd_ HO_663002
   replace HO_663003 := Aside0.mk (Kd.S_drew HO_663003.out)
   replace BK635 := bd_ BK635
   replace BK662 := bd_ BK662
   replace HB := Aside0.mk (below_drew1 HB.out)
   refine start_ (n := 5) (S := fun w' => w'.cell? ⟨gb662, 0, none⟩ = some (.int .i64 t652) ∧ w'.cell? ⟨gb662, 1, none⟩ = some (.slice Ao28 t653.length co28) ∧ w'.cell? ⟨gb662, 2, none⟩ = some (.slice Ao29 t656.length co29) ∧ w'.cell? ⟨gb662, 3, none⟩ = some (.slice Ao30 t659.length co30) ∧ w'.cell? ⟨gb635, 0, none⟩ = some (.int .i64 a0_0) ∧ w'.cell? ⟨gb635, 1, none⟩ = some (.slice A0_1 l0_1.length c0_1) ∧ w'.cell? ⟨gb635, 2, none⟩ = some (.slice A0_2 l0_2.length c0_2) ∧ w'.cell? ⟨gb635, 3, none⟩ = some (.slice A0_3 l0_3.length c0_3)) (ds := []) (bs 5 0) (by kernel_rfl) rfl rfl ⟨bc_ BK662 0, bc_ BK662 1, bc_ BK662 2, bc_ BK662 3, bc_ BK635 0, bc_ BK635 1, bc_ BK635 2, bc_ BK635 3⟩ (fun hHeld => ?_)
   generalize wc.drew = w50 at HO_8 HO_12 HO_663001 HO_663002 HO_663003 BK635 BK662 HB hHeld ⊢
   refine take_ (i := 0) (N := some 59) (v := ?_) (a' := ?_) (bs 5 1) rfl rfl (by kernel_rfl) (fun _ _ _ h => h) (Or.inl ⟨by rfl, ?_⟩) hHeld ?_ ?_
   rotate_left
   ·rintro w' ⟨s0, s1, s2, s3, s4, s5, s6, s7⟩
    go_simp
    with_reducible rfl
   rotate_left
   ·simp only [Act.put, List.setIfInBounds_toArray, List.set_cons_zero, List.set_cons_succ, i64_w, i32_w]
    rfl
   refine take_ (i := 1) (N := some 60) (v := ?_) (a' := ?_) (bs 5 3) rfl rfl (by kernel_rfl) (fun _ _ _ h => h) (Or.inl ⟨by rfl, ?_⟩) hHeld ?_ ?_
   rotate_left
   ·rintro w' ⟨s0, s1, s2, s3, s4, s5, s6, s7⟩
    go_simp
    with_reducible rfl
   rotate_left
   ·simp only [Act.put, List.setIfInBounds_toArray, List.set_cons_zero, List.set_cons_succ, i64_w, i32_w]
    rfl
   refine one_ (i := 2) (N := some 61) (bs 5 7) rfl rfl (by kernel_rfl) (by decide) (fun K hK => ?_)
   refine goes_ Try.func13 (by kernel_rfl) rfl #[.agg #[.int .i64 a0_0, .slice A0_1 l0_1.length c0_1, .slice A0_2 l0_2.length c0_2, .slice A0_3 l0_3.length c0_3]] (by rfl) rfl rfl tm_ ?_
   with_reducible refine (laws_toCampus.calls kj12 a0_0 _ _ l0_1 _ _ l0_2 _ _ l0_3 t669 t670 t673 t676 _ ?side1 ?side2 ?side3 ?side4 ?side5 ?side6 A45.out).mono ?_
   (case side1 => exact cb_ HR0_1 HB)
   (case side2 => exact HC0_1.out)
   (case side3 => exact cb_ HR0_2 HB)
   (case side4 => exact HC0_2.out)
   (case side5 => exact cb_ HR0_3 HB)
   (case side6 => exact HC0_3.out)
   rintro e w51 ⟨v671, v674, v677, rfl, ho0, ho1, ho2, hb⟩
   refine ⟨_, rfl, ?_⟩
   have HO672 := Aside0.mk (Kd.R_lower (Kd.R_new' ho0 (rl_ HO_663001)) (below_size (hB HB)))
   have HO675 := Aside0.mk (Kd.R_lower (Kd.R_new' ho1 (rl_ HO_663002)) (below_size (hB HB)))
   have HO678 := Aside0.mk (Kd.S_lower (Kd.S_new' (Kd.S_new' ho2 (rl_ HO_663002)) (Kd.S_lt (sa HO_663003.out))) (below_size (hB HB)))
   replace HO_8 := rb_ HO_8 hb
   replace HO_12 := rb_ HO_12 hb
   replace HO_663001 := re_ HO_663001 ho0 hb
   replace HO_663002 := re_ HO_663002 ho1 hb
   replace HO_663003 := Aside0.mk (Kd.S_mono (Kd.S_told (Kd.S_told (Kd.S_old (sa HO_663003.out) hb) (Kd.R_base ho1)) (Kd.S_base ho2)) (fun _ h_ => h_.1))
   replace BK635 := bb_ BK635 hb
   replace BK662 := bb_ BK662 hb
   replace HB := bst_ HB hb
   clear hb ho0 ho1 ho2
   obtain ⟨Ao52, co52, eo52⟩ := Kd.R_slice HO672.out
   subst eo52
   obtain ⟨Ao53, co53, eo53⟩ := Kd.R_slice HO675.out
   subst eo53
   obtain ⟨Ao54, co54, eo54⟩ := Kd.S_slice HO678.out
   subst eo54
   refine hK.out _ _ ⟨bc_ BK662 0, bc_ BK662 1, bc_ BK662 2, bc_ BK662 3, bc_ BK635 0, bc_ BK635 1, bc_ BK635 2, bc_ BK635 3⟩ (fun hHeld => ?_)
   clear hK K
   refine nm_ 61 ?_
   refine one_ (i := 3) (N := some 62) (bs 5 15) rfl rfl (by kernel_rfl) (by decide) (fun K hK => ?_)
   refine goes_ Try.func16 (by kernel_rfl) rfl #[.agg #[.int .i64 t652, .slice Ao28 t653.length co28, .slice Ao29 t656.length co29, .slice Ao30 t659.length co30], .agg #[.int .i64 t669, .slice Ao52 t670.length co52, .slice Ao53 t673.length co53, .slice Ao54 t676.length co54]] (by rfl) rfl rfl tm_ ?_
   with_reducible refine (laws_eqCampus.calls kj12 t652 _ _ t653 _ _ t656 _ _ t659 t669 _ _ t670 _ _ t673 _ _ t676 true _ ?side1 ?side2 ?side3 ?side4 ?side5 ?side6 ?side7 ?side8 ?side9 ?side10 ?side11 ?side12 A46.out).mono ?_
   (case side1 => exact ca (Kd.R_reads' HO_663001.out).2.2)
   (case side2 => exact (Kd.R_reads' HO_663001.out).2.1)
   (case side3 => exact ca (Kd.R_reads' HO_663002.out).2.2)
   (case side4 => exact (Kd.R_reads' HO_663002.out).2.1)
   (case side5 => exact ca (Kd.S_reads' HO_663003.out).2.2)
   (case side6 => exact (Kd.S_reads' HO_663003.out).2.1)
   (case side7 => exact ca (Kd.R_reads' HO672.out).2.2)
   (case side8 => exact (Kd.R_reads' HO672.out).2.1)
   (case side9 => exact ca (Kd.R_reads' HO675.out).2.2)
   (case side10 => exact (Kd.R_reads' HO675.out).2.1)
   (case side11 => exact ca (Kd.S_reads' HO678.out).2.2)
   (case side12 => exact (Kd.S_reads' HO678.out).2.1)
   rintro e w55 ⟨rfl, hb⟩
   refine ⟨_, rfl, ?_⟩
   replace HO_8 := rb_ HO_8 hb
   replace HO_12 := rb_ HO_12 hb
   replace HO_663001 := rb_ HO_663001 hb
   replace HO_663002 := rb_ HO_663002 hb
   replace HO_663003 := Aside0.mk (Kd.S_below (sa HO_663003.out) hb)
   replace HO672 := rb_ HO672 hb
   replace HO675 := rb_ HO675 hb
   replace HO678 := Aside0.mk (Kd.S_below (sa HO678.out) hb)
   replace BK635 := bb_ BK635 hb
   replace BK662 := bb_ BK662 hb
   replace HB := bst_ HB hb
   clear hb
   refine hK.out _ _ ⟨bc_ BK662 0, bc_ BK662 1, bc_ BK662 2, bc_ BK662 3, bc_ BK635 0, bc_ BK635 1, bc_ BK635 2, bc_ BK635 3⟩ (fun hHeld => ?_)
   clear hK K
   refine nm_ 62 ?_
   refine pure_ (i := 4) (N := some 63) (v := ?_) (a' := ?_) (bs 5 31) rfl rfl (by kernel_rfl) (fun _ _ _ h => h) (Or.inl ⟨by rfl, ?_⟩) ?_ ?_
   rotate_left
   ·intro w'
    go_simp
    with_reducible rfl
   rotate_left
   ·simp only [Act.put, List.setIfInBounds_toArray, List.set_cons_zero, List.set_cons_succ, i64_w, i32_w]
    rfl
   refine done_ (by kernel_rfl) ?_
   have hnb56 := NB662_635.out
   have hnc56 := NB635_662.out
   have hcz57_0 : w55.cell? ⟨gb662, 0, none⟩ = some (.int .i64 t652) := bc_ BK662 0
   have hcz57_1 : w55.cell? ⟨gb662, 1, none⟩ = some (.slice Ao28 t653.length co28) := bc_ BK662 1
   have hcz57_2 : w55.cell? ⟨gb662, 2, none⟩ = some (.slice Ao29 t656.length co29) := bc_ BK662 2
   have hcz57_3 : w55.cell? ⟨gb662, 3, none⟩ = some (.slice Ao30 t659.length co30) := bc_ BK662 3
   have hfz57_0 := blk_frozen BK662.out 0
   have hfz57_1 := blk_frozen BK662.out 1
   have hfz57_2 := blk_frozen BK662.out 2
   have hfz57_3 := blk_frozen BK662.out 3
   go_upto_region 14 with (first | ((with_reducible refine gate_callee (f := 17) rfl ?_); refine goesL_ (some 66) rfl rfl Try.func17 (by kernel_rfl) rfl #[.agg #[.int .i64 t652, .slice Ao28 t653.length co28, .slice Ao29 t656.length co29, .slice Ao30 t659.length co30], .int .i64 1] rfl tm_ ?_; (with_reducible refine (laws_markCampus.calls kj12 t652 (fun k_ => some k_ = (.slice Ao28 t653.length co28 : Value).ownBlock) (.slice Ao28 t653.length co28) t653 (fun k_ => some k_ = (.slice Ao29 t656.length co29 : Value).ownBlock) (.slice Ao29 t656.length co29) t656 ?P3_ _ _ t659 1 t680 t681 t682 w _ ?side1 ?side2 ?side3 ?side4 ?side5 ?side6 A48.out).mono ?_); (case side1 => exact hB HB); (case side2 => exact Kd.R_tight rfl HO_663001.out); (case side3 => exact Kd.R_tight rfl HO_663002.out); (case side4 => exact Kd.S_bound (Kd.S_apart' HO_663003.out (Kd.R_typed HO_663001.out) (by decide))); (case side5 => exact (fun k_ hk_ hs_ => have hk_ := hk_.1; Or.elim hs_ (fun e_ => (hk_.2) e_) (fun e_ => (hk_.1.1.1) e_))); (case side6 => exact (fun k_ hk_ => hk_.2.2.1)); rintro e w58 ⟨rfl, hy0, hy1, ⟨t659b, hy3_⟩, hb, hkp⟩; refine ⟨_, rfl, ?_⟩; replace HO_8 := Aside0.mk (Kd.R_mono (ok' := fun k_ => no_ v664 k_) (Kd.R_keptB (Kd.R_bound ((Kd.R_apart' (Kd.R_apart' HO_8.out (Kd.R_typed HO_663001.out) (by decide)) (Kd.R_typed HO_663002.out) (by decide)))) hkp (fun k_ hk_ h_ => Or.elim h_ (fun hs_ => have hk_ := hk_.1; Or.elim hs_ (fun e_ => (hk_.1.2) e_) (fun e_ => (hk_.2) e_)) (fun h3_ => laws_FnExactSendOne.ts_ hk_.2 h3_ (by decide)))) (fun k_ hk_ => have hk_ : _ ∧ True := ⟨hk_.1.1, trivial⟩; hk_.1.1.1)); replace HO_12 := Aside0.mk (Kd.R_mono (ok' := fun k_ => no_ v648 k_) (Kd.R_keptB (Kd.R_bound ((Kd.R_apart' (Kd.R_apart' HO_12.out (Kd.R_typed HO_663001.out) (by decide)) (Kd.R_typed HO_663002.out) (by decide)))) hkp (fun k_ hk_ h_ => Or.elim h_ (fun hs_ => have hk_ := hk_.1; Or.elim hs_ (fun e_ => (hk_.1.2) e_) (fun e_ => (hk_.2) e_)) (fun h3_ => laws_FnExactSendOne.ts_ hk_.2 h3_ (by decide)))) (fun k_ hk_ => have hk_ : _ ∧ True := ⟨hk_.1.1, trivial⟩; hk_.1.1.1)); replace HO_663003 := Aside0.mk (Kd.S_mono (ok' := fun k_ => no_ (.slice Ao29 t656.length co29) k_ ∧ no_ (.slice Ao53 t673.length co53) k_ ∧ no_ (.slice Ao54 t676.length co54) k_) hy3_ (fun k_ hk_ => have hk_ := hk_; ⟨hk_.1.1.1.1, hk_.1.1.1.2, hk_.1.1.2⟩)); replace BK635 := Aside0.mk (blk_kept (ba BK635.out) hkp (fun h_ => Or.elim h_ (fun hs_ => Or.elim hs_ (kne_ HO_663001 BK635) (kne_ HO_663002 BK635)) (fun h3_ => laws_FnExactSendOne.tb_ BK635.out h3_ (by decide)))); replace BK662 := Aside0.mk (blk_kept (ba BK662.out) hkp (fun h_ => Or.elim h_ (fun hs_ => Or.elim hs_ (kne_ HO_663001 BK662) (kne_ HO_663002 BK662)) (fun h3_ => laws_FnExactSendOne.tb_ BK662.out h3_ (by decide)))); replace HO_663002 := Aside0.mk (Kd.R_reok rfl hy1 (fun k_ e_ => HO_663002.out.1 k_ e_)); replace HO_663001 := Aside0.mk (Kd.R_reok rfl hy0 (fun k_ e_ => HO_663001.out.1 k_ e_)); replace HB := Aside0.mk (hb); clear hb))
   (try simp only [Act.put, List.setIfInBounds_toArray, List.set_cons_zero, List.set_cons_succ])
   go_cut [84] (fun v84 wc => ∃ (kq : Nat) (x84_48 : Bool), v84 = .bool x84_48 ∧ Aside0 (laws_FnExactSendOne.j1 kq a1 a2 t647 t650 t651 t663 x84_48 a0_0 l0_1 l0_2 l0_3 = some r) ∧ Aside0 (kq ≤ kj12) ∧ Aside0 (Kd.R k95 95 wc w.heap.size (fun k_ => no_ v664 k_) v648 t647) ∧ Aside0 (Kd.R k95 95 wc w.heap.size (fun k_ => no_ v648 k_) v664 t663) ∧ Aside0 (Kd.R k86 86 wc w.heap.size (fun _ => True) (.slice Ao28 t653.length co28) t681) ∧ Aside0 (Kd.R (Kd.int .i64) 3 wc w.heap.size (fun _ => True) (.slice Ao29 t656.length co29) t682) ∧ Aside0 (Kd.S k130 130 wc w.heap.size (fun k_ => no_ (.slice Ao29 t656.length co29) k_) (.slice Ao30 t659.length co30) t659b) ∧ Aside0 (wc.heap[gb635]? = some (.cells #[.int .i64 a0_0, (.slice A0_1 l0_1.length c0_1), (.slice A0_2 l0_2.length c0_2), (.slice A0_3 l0_3.length c0_3)] 26 (0, 0))) ∧ Aside0 (wc.heap[gb662]? = some (.cells #[.int .i64 t652, (.slice Ao28 t653.length co28), (.slice Ao29 t656.length co29), (.slice Ao30 t659.length co30)] 33 (0, 0))) ∧ Aside0 (Below w.heap.size w wc))
   case first =>
    have H := HC49.out
    clear HC49
    by_cases c59 : t680 < 0
    ·rw [if_pos c59] at H
     have c59b0 : decide (t680 < 0) = true := decide_eq_true c59
     clear c59
     (first | rw [c59b0] | (simp only [i64_w, i32_w]; rw [c59b0]) | skip)
     have H' := Aside0.mk H
     clear H
     go_wp2
     go_meet
     case rel => exact ⟨_, (true), (by first | rfl | (simp; done) | (simp [*]; done)), H', ⟨by have := HJ12.out; first | omega | exact Nat.le_refl _⟩, ⟨ra HO_8.out⟩, ⟨ra HO_12.out⟩, rm_ HO_663001 (fun _ hk => trivial), rm_ HO_663002 (fun _ hk => trivial), ⟨by (with_reducible repeat (first | apply Kd.S_alloc | apply Kd.S_drewN | apply Kd.S_drew)); exact Kd.S_mono HO_663003.out (fun _ hk => hk.1)⟩, ⟨by (with_reducible repeat (first | refine blk_drewN ?_ _ | refine blk_drew ?_ | refine blk_alloc ?_ _)); exact BK635.out⟩, ⟨by (with_reducible repeat (first | refine blk_drewN ?_ _ | refine blk_drew ?_ | refine blk_alloc ?_ _)); exact BK662.out⟩, ⟨hB HB⟩⟩
    rw [if_neg c59] at H
    have c59b0 : decide (t680 < 0) = false := decide_eq_false c59
    clear c59
    (first | rw [c59b0] | (simp only [i64_w, i32_w]; rw [c59b0]) | skip)
    replace H := Option.bind_eq_some_iff.mp H
    obtain ⟨t683, A600, H⟩ := H
    replace H : (if t683 = true then (if (t666 != t650) = true then (laws_FnExactSendOne.j1 kj12 a1 a2 t647 t650 t651 t663 true a0_0 l0_1 l0_2 l0_3) else (laws_FnExactSendOne.j1 kj12 a1 a2 t647 t650 t651 t663 (t667 != t651) a0_0 l0_1 l0_2 l0_3)) else (laws_FnExactSendOne.j1 kj12 a1 a2 t647 t650 t651 t663 true a0_0 l0_1 l0_2 l0_3)) = some r := H
    have A60 := Aside0.mk A600
    clear A600
    by_cases c61 : t683 = true
    rotate_left
    ·replace c61 := Bool.eq_false_iff.mpr c61
     subst c61
     rw [if_neg (show ¬ (false = true) by decide)] at H
     have H' := Aside0.mk H
     clear H
     obtain ⟨Ao69, co69, eo69⟩ := Kd.R_slice HO_12.out
     subst eo69
     obtain ⟨Ao70, co70, eo70⟩ := Kd.R_slice HO_8.out
     subst eo70
     go_wp2_with (first | (go_at_call 24; (with_reducible refine (laws_eqHopS.calls kj12 _ _ t663 _ _ t647 false _ ?side1 ?side2 ?side3 ?side4 A60.out).mono ?_); (case side1 => exact ca (Kd.R_reads' HO_12.out).2.2); (case side2 => exact (Kd.R_reads' HO_12.out).2.1); (case side3 => exact ca (Kd.R_reads' HO_8.out).2.2); (case side4 => exact (Kd.R_reads' HO_8.out).2.1); rintro e w71 ⟨rfl, hb⟩; replace HO_8 := rb_ HO_8 hb; replace HO_12 := rb_ HO_12 hb; replace HO_663001 := rb_ HO_663001 hb; replace HO_663002 := rb_ HO_663002 hb; replace HO_663003 := Aside0.mk (Kd.S_below (sa HO_663003.out) hb); replace BK635 := bb_ BK635 hb; replace BK662 := bb_ BK662 hb; replace HB := bst_ HB hb; clear hb))
     go_meet
     case rel => exact ⟨_, (true), (by first | rfl | (simp; done) | (simp [*]; done)), H', ⟨by have := HJ12.out; first | omega | exact Nat.le_refl _⟩, ⟨ra HO_8.out⟩, ⟨ra HO_12.out⟩, rm_ HO_663001 (fun _ hk => trivial), rm_ HO_663002 (fun _ hk => trivial), ⟨by (with_reducible repeat (first | apply Kd.S_alloc | apply Kd.S_drewN | apply Kd.S_drew)); exact Kd.S_mono HO_663003.out (fun _ hk => hk.1)⟩, ⟨by (with_reducible repeat (first | refine blk_drewN ?_ _ | refine blk_drew ?_ | refine blk_alloc ?_ _)); exact BK635.out⟩, ⟨by (with_reducible repeat (first | refine blk_drewN ?_ _ | refine blk_drew ?_ | refine blk_alloc ?_ _)); exact BK662.out⟩, ⟨hB HB⟩⟩
    subst c61
    rw [if_pos rfl] at H
    by_cases c62 : (t666 != t650) = true
    rotate_left
    ·rw [if_neg c62] at H
     have c62b0 : (t666 != t650) = false := by simpa using c62
     (try (have c62b1 : decide (t666 = t650) = true := by simpa using c62))
     (try (have c62b2 : (t666 == t650) = true := by simpa using c62))
     clear c62
     have H' := Aside0.mk H
     clear H
     obtain ⟨Ao66, co66, eo66⟩ := Kd.R_slice HO_12.out
     subst eo66
     obtain ⟨Ao67, co67, eo67⟩ := Kd.R_slice HO_8.out
     subst eo67
     go_wp2_with (first | (go_at_call 24; (with_reducible refine (laws_eqHopS.calls kj12 _ _ t663 _ _ t647 true _ ?side1 ?side2 ?side3 ?side4 A60.out).mono ?_); (case side1 => exact ca (Kd.R_reads' HO_12.out).2.2); (case side2 => exact (Kd.R_reads' HO_12.out).2.1); (case side3 => exact ca (Kd.R_reads' HO_8.out).2.2); (case side4 => exact (Kd.R_reads' HO_8.out).2.1); rintro e w68 ⟨rfl, hb⟩; replace HO_8 := rb_ HO_8 hb; replace HO_12 := rb_ HO_12 hb; replace HO_663001 := rb_ HO_663001 hb; replace HO_663002 := rb_ HO_663002 hb; replace HO_663003 := Aside0.mk (Kd.S_below (sa HO_663003.out) hb); replace BK635 := bb_ BK635 hb; replace BK662 := bb_ BK662 hb; replace HB := bst_ HB hb; clear hb))
     go_meet
     case rel => exact ⟨_, ((t667 != t651)), (by first | rfl | (simp; done) | (simp [*]; done)), H', ⟨by have := HJ12.out; first | omega | exact Nat.le_refl _⟩, ⟨ra HO_8.out⟩, ⟨ra HO_12.out⟩, rm_ HO_663001 (fun _ hk => trivial), rm_ HO_663002 (fun _ hk => trivial), ⟨by (with_reducible repeat (first | apply Kd.S_alloc | apply Kd.S_drewN | apply Kd.S_drew)); exact Kd.S_mono HO_663003.out (fun _ hk => hk.1)⟩, ⟨by (with_reducible repeat (first | refine blk_drewN ?_ _ | refine blk_drew ?_ | refine blk_alloc ?_ _)); exact BK635.out⟩, ⟨by (with_reducible repeat (first | refine blk_drewN ?_ _ | refine blk_drew ?_ | refine blk_alloc ?_ _)); exact BK662.out⟩, ⟨hB HB⟩⟩
    rw [if_pos c62] at H
    have c62b0 : (t666 != t650) = true := c62
    (try (have c62b1 : decide (t666 = t650) = false := by simpa using c62))
    (try (have c62b2 : (t666 == t650) = false := by simpa using c62))
    (try (have c62b3 : ¬ (t666 = t650) := by simpa using c62))
    clear c62
    have H' := Aside0.mk H
    clear H
    obtain ⟨Ao63, co63, eo63⟩ := Kd.R_slice HO_12.out
    subst eo63
    obtain ⟨Ao64, co64, eo64⟩ := Kd.R_slice HO_8.out
    subst eo64
    go_wp2_with (first | (go_at_call 24; (with_reducible refine (laws_eqHopS.calls kj12 _ _ t663 _ _ t647 true _ ?side1 ?side2 ?side3 ?side4 A60.out).mono ?_); (case side1 => exact ca (Kd.R_reads' HO_12.out).2.2); (case side2 => exact (Kd.R_reads' HO_12.out).2.1); (case side3 => exact ca (Kd.R_reads' HO_8.out).2.2); (case side4 => exact (Kd.R_reads' HO_8.out).2.1); rintro e w65 ⟨rfl, hb⟩; replace HO_8 := rb_ HO_8 hb; replace HO_12 := rb_ HO_12 hb; replace HO_663001 := rb_ HO_663001 hb; replace HO_663002 := rb_ HO_663002 hb; replace HO_663003 := Aside0.mk (Kd.S_below (sa HO_663003.out) hb); replace BK635 := bb_ BK635 hb; replace BK662 := bb_ BK662 hb; replace HB := bst_ HB hb; clear hb))
    go_meet
    case rel => exact ⟨_, (true), (by first | rfl | (simp; done) | (simp [*]; done)), H', ⟨by have := HJ12.out; first | omega | exact Nat.le_refl _⟩, ⟨ra HO_8.out⟩, ⟨ra HO_12.out⟩, rm_ HO_663001 (fun _ hk => trivial), rm_ HO_663002 (fun _ hk => trivial), ⟨by (with_reducible repeat (first | apply Kd.S_alloc | apply Kd.S_drewN | apply Kd.S_drew)); exact Kd.S_mono HO_663003.out (fun _ hk => hk.1)⟩, ⟨by (with_reducible repeat (first | refine blk_drewN ?_ _ | refine blk_drew ?_ | refine blk_alloc ?_ _)); exact BK635.out⟩, ⟨by (with_reducible repeat (first | refine blk_drewN ?_ _ | refine blk_drew ?_ | refine blk_alloc ?_ _)); exact BK662.out⟩, ⟨hB HB⟩⟩
   case rest =>
    clear HC49
    try clear c5
    try clear c5b0
    try clear c44
    try clear c47
    try clear hcz15_0
    try clear hcz15_1
    try clear hcz15_2
    try clear hcz15_3
    try clear hcz17_0
    try clear hcz17_1
    try clear hcz17_2
    try clear hcz17_3
    try clear hcz23_0
    try clear hcz23_1
    try clear hcz23_2
    try clear hcz23_3
    try clear hcz27_0
    try clear hcz27_1
    try clear hcz27_2
    try clear hcz27_3
    try clear hcz57_0
    try clear hcz57_1
    try clear hcz57_2
    try clear hcz57_3
    try clear hfz15_0
    try clear hfz15_1
    try clear hfz15_2
    try clear hfz15_3
    try clear hfz17_0
    try clear hfz17_1
    try clear hfz17_2
    try clear hfz17_3
    try clear hfz23_0
    try clear hfz23_1
    try clear hfz23_2
    try clear hfz23_3
    try clear hfz27_0
    try clear hfz27_1
    try clear hfz27_2
    try clear hfz27_3
    try clear hfz57_0
    try clear hfz57_1
    try clear hfz57_2
    try clear hfz57_3
    obtain ⟨kq, x84_48, rfl, HA, HJ48, HO_8, HO_12, HO_663001, HO_663002, HO_663003, BK635, BK662, HB⟩ := hcut
    have hl663001_48 := (Kd.R_reads' HO_663001.out).1
    rw [hl663001_48] at HO_663001
    (try simp only [hl663001_48])
    (try simp only [hl663001_48] at BK635)
    (try simp only [hl663001_48] at BK662)
    (try simp only [hl663001_48] at HO_8)
    (try simp only [hl663001_48] at HO_12)
    (try simp only [hl663001_48] at HO_663002)
    (try simp only [hl663001_48] at HO_663003)
    have hl663002_48 := (Kd.R_reads' HO_663002.out).1
    rw [hl663002_48] at HO_663002
    (try simp only [hl663002_48])
    (try simp only [hl663002_48] at BK635)
    (try simp only [hl663002_48] at BK662)
    (try simp only [hl663002_48] at HO_8)
    (try simp only [hl663002_48] at HO_12)
    (try simp only [hl663002_48] at HO_663001)
    (try simp only [hl663002_48] at HO_663003)
    cases kq with
    | zero => exact absurd HA.out (by simp [laws_FnExactSendOne.j1])
    | succ kj48 =>
     have H := HA.out
     clear HA
     simp only [laws_FnExactSendOne.j1] at H
     by_cases c72 : x84_48 = true
     ·subst c72
      rw [if_pos rfl] at H
      obtain rfl := Option.some.inj H
      go_wp2
      go_ret
      exact ⟨by first | rfl | (simp [errW_none, errW_some] <;> rfl) | (simp [*, errW_none, errW_some] <;> rfl), hB HB⟩
     replace c72 := Bool.eq_false_iff.mpr c72
     subst c72
     rw [if_neg (show ¬ (false = true) by decide)] at H
     replace H := Option.bind_eq_some_iff.mp H
     obtain ⟨⟨t684, t685⟩, A730, H⟩ := H
     replace H : ((laws_heldHopS.f kj48 t685 1).bind fun t686 => (if t686 < 0 then (some false) else (if t686 = t684 then ((laws_toCampus.f kj48 a0_0 l0_1 l0_2 l0_3).bind fun bt687 => ((impl_SendOne.f kj48 bt687.1 bt687.2.1 bt687.2.2.1 bt687.2.2.2 a1 a2).bind fun bt697 => ((laws_eqHopS.f kj48 bt697.1 t647).bind fun t702 => (if t702 = true then (if (bt697.2.1 != t650) = true then (laws_FnExactSendOne.j2 kj48 t685 t684 true) else (laws_FnExactSendOne.j2 kj48 t685 t684 (bt697.2.2 != t651))) else (laws_FnExactSendOne.j2 kj48 t685 t684 true))))) else (some false)))) = some r := H
     have A73 := Aside0.mk A730
     clear A730
     replace H := Option.bind_eq_some_iff.mp H
     obtain ⟨t686, A740, H⟩ := H
     replace H : (if t686 < 0 then (some false) else (if t686 = t684 then ((laws_toCampus.f kj48 a0_0 l0_1 l0_2 l0_3).bind fun bt687 => ((impl_SendOne.f kj48 bt687.1 bt687.2.1 bt687.2.2.1 bt687.2.2.2 a1 a2).bind fun bt697 => ((laws_eqHopS.f kj48 bt697.1 t647).bind fun t702 => (if t702 = true then (if (bt697.2.1 != t650) = true then (laws_FnExactSendOne.j2 kj48 t685 t684 true) else (laws_FnExactSendOne.j2 kj48 t685 t684 (bt697.2.2 != t651))) else (laws_FnExactSendOne.j2 kj48 t685 t684 true))))) else (some false))) = some r := H
     have A74 := Aside0.mk A740
     clear A740
     by_cases c75 : t686 < 0
     ·rw [if_pos c75] at H
      have c75b0 : decide (t686 < 0) = true := decide_eq_true c75
      clear c75
      obtain rfl := Option.some.inj H
      obtain ⟨Ao76, co76, eo76⟩ := Kd.R_slice HO_12.out
      subst eo76
      go_wp2_with (first | ((with_reducible refine gate_callee (f := 25) rfl ?_); refine goesL_ (some 87) rfl rfl Try.func25 (by kernel_rfl) rfl #[.slice Ao76 t663.length co76, .int .i64 1] rfl tm_ ?_; (with_reducible refine (laws_markHopS.calls kj48 (fun k_ => some k_ = (.slice Ao76 t663.length co76 : Value).ownBlock) (.slice Ao76 t663.length co76) t663 1 t684 t685 w _ ?side1 ?side2 A73.out).mono ?_); (case side1 => exact hB HB); (case side2 => exact Kd.R_tight rfl HO_12.out); rintro e w77 ⟨rfl, hy0, hb, hkp⟩; refine ⟨_, rfl, ?_⟩; replace HO_8 := Aside0.mk (Kd.R_mono (ok' := fun k_ => no_ (.slice Ao76 t663.length co76) k_) (Kd.R_keptB (HO_8.out) hkp (fun k_ hk_ hs_ => (hk_) hs_)) (fun k_ hk_ => hk_.1)); replace HO_663001 := Aside0.mk (Kd.R_mono (ok' := fun k_ => True) (Kd.R_keptB ((Kd.R_apart' HO_663001.out (Kd.R_typed HO_12.out) (by decide))) hkp (fun k_ hk_ hs_ => (hk_.2) hs_)) (fun k_ hk_ => trivial)); replace HO_663002 := Aside0.mk (Kd.R_mono (ok' := fun k_ => True) (Kd.R_keptB ((Kd.R_apart' HO_663002.out (Kd.R_typed HO_12.out) (by decide))) hkp (fun k_ hk_ hs_ => (hk_.2) hs_)) (fun k_ hk_ => trivial)); replace HO_663003 := Aside0.mk (Kd.S_mono (ok' := fun k_ => no_ (.slice Ao29 t682.length co29) k_) (Kd.S_keptB ((Kd.S_apart' HO_663003.out (Kd.R_typed HO_12.out) (by decide))) hkp (fun k_ hk_ hs_ => (hk_.2) hs_)) (fun k_ hk_ => hk_.1.1)); replace BK635 := Aside0.mk (blk_kept (ba BK635.out) hkp (fun hs_ => (fun e_ => (Kd.R_ne HO_12.out BK635.out (by decide)) e_) hs_)); replace BK662 := Aside0.mk (blk_kept (ba BK662.out) hkp (fun hs_ => (fun e_ => (Kd.R_ne HO_12.out BK662.out (by decide)) e_) hs_)); replace HO_12 := Aside0.mk (Kd.R_reok rfl hy0 (fun k_ e_ => HO_12.out.1 k_ e_)); replace HB := Aside0.mk (hb); clear hb) | ((with_reducible refine gate_callee (f := 26) rfl ?_); refine goesL_ (some 90) rfl rfl Try.func26 (by kernel_rfl) rfl #[.slice Ao76 t685.length co76, .int .i64 1] rfl (by (try simp only [List.map_toArray, List.map_cons, List.map_nil]); first | done | (rw [show t685.length = t663.length from (Kd.R_reads' HO_12.out).1.symm] <;> rfl) | rfl | (simp only [List.length_drop, List.length_take]; rfl)) ?_; (with_reducible refine (laws_heldHopS.calls kj48 _ _ t685 1 t686 _ ?side1 ?side2 A74.out).mono ?_); (case side1 => exact ca (Kd.R_reads' HO_12.out).2.2); (case side2 => rw [show t685.length = t663.length from (Kd.R_reads' HO_12.out).1.symm]; exact (Kd.R_reads' HO_12.out).2.1); rintro e w' ⟨rfl, ⟨nd, rfl⟩⟩; refine ⟨_, rfl, ?_⟩))
      go_ret
      exact ⟨by first | rfl | (simp [errW_none, errW_some] <;> rfl) | (simp [*, errW_none, errW_some] <;> rfl), hB HB⟩
     rw [if_neg c75] at H
     have c75b0 : decide (t686 < 0) = false := decide_eq_false c75
     clear c75
     by_cases c78 : t686 = t684
     rotate_left
     ·rw [if_neg c78] at H
      have c78b0 : (t686 == t684) = false := beq_eq_false_iff_ne.mpr c78
      have c78b1 : (t686 != t684) = true := bne_iff_ne.mpr c78
      obtain rfl := Option.some.inj H
      obtain ⟨Ao107, co107, eo107⟩ := Kd.R_slice HO_12.out
      subst eo107
      go_wp2_with (first | ((with_reducible refine gate_callee (f := 25) rfl ?_); refine goesL_ (some 87) rfl rfl Try.func25 (by kernel_rfl) rfl #[.slice Ao107 t663.length co107, .int .i64 1] rfl tm_ ?_; (with_reducible refine (laws_markHopS.calls kj48 (fun k_ => some k_ = (.slice Ao107 t663.length co107 : Value).ownBlock) (.slice Ao107 t663.length co107) t663 1 t684 t685 w _ ?side1 ?side2 A73.out).mono ?_); (case side1 => exact hB HB); (case side2 => exact Kd.R_tight rfl HO_12.out); rintro e w108 ⟨rfl, hy0, hb, hkp⟩; refine ⟨_, rfl, ?_⟩; replace HO_8 := Aside0.mk (Kd.R_mono (ok' := fun k_ => no_ (.slice Ao107 t663.length co107) k_) (Kd.R_keptB (HO_8.out) hkp (fun k_ hk_ hs_ => (hk_) hs_)) (fun k_ hk_ => hk_.1)); replace HO_663001 := Aside0.mk (Kd.R_mono (ok' := fun k_ => True) (Kd.R_keptB ((Kd.R_apart' HO_663001.out (Kd.R_typed HO_12.out) (by decide))) hkp (fun k_ hk_ hs_ => (hk_.2) hs_)) (fun k_ hk_ => trivial)); replace HO_663002 := Aside0.mk (Kd.R_mono (ok' := fun k_ => True) (Kd.R_keptB ((Kd.R_apart' HO_663002.out (Kd.R_typed HO_12.out) (by decide))) hkp (fun k_ hk_ hs_ => (hk_.2) hs_)) (fun k_ hk_ => trivial)); replace HO_663003 := Aside0.mk (Kd.S_mono (ok' := fun k_ => no_ (.slice Ao29 t682.length co29) k_) (Kd.S_keptB ((Kd.S_apart' HO_663003.out (Kd.R_typed HO_12.out) (by decide))) hkp (fun k_ hk_ hs_ => (hk_.2) hs_)) (fun k_ hk_ => hk_.1.1)); replace BK635 := Aside0.mk (blk_kept (ba BK635.out) hkp (fun hs_ => (fun e_ => (Kd.R_ne HO_12.out BK635.out (by decide)) e_) hs_)); replace BK662 := Aside0.mk (blk_kept (ba BK662.out) hkp (fun hs_ => (fun e_ => (Kd.R_ne HO_12.out BK662.out (by decide)) e_) hs_)); replace HO_12 := Aside0.mk (Kd.R_reok rfl hy0 (fun k_ e_ => HO_12.out.1 k_ e_)); replace HB := Aside0.mk (hb); clear hb) | ((with_reducible refine gate_callee (f := 26) rfl ?_); refine goesL_ (some 90) rfl rfl Try.func26 (by kernel_rfl) rfl #[.slice Ao107 t685.length co107, .int .i64 1] rfl (by (try simp only [List.map_toArray, List.map_cons, List.map_nil]); first | done | (rw [show t685.length = t663.length from (Kd.R_reads' HO_12.out).1.symm] <;> rfl) | rfl | (simp only [List.length_drop, List.length_take]; rfl)) ?_; (with_reducible refine (laws_heldHopS.calls kj48 _ _ t685 1 t686 _ ?side1 ?side2 A74.out).mono ?_); (case side1 => exact ca (Kd.R_reads' HO_12.out).2.2); (case side2 => rw [show t685.length = t663.length from (Kd.R_reads' HO_12.out).1.symm]; exact (Kd.R_reads' HO_12.out).2.1); rintro e w' ⟨rfl, ⟨nd, rfl⟩⟩; refine ⟨_, rfl, ?_⟩))
      go_ret
      exact ⟨by first | rfl | (simp [errW_none, errW_some] <;> rfl) | (simp [*, errW_none, errW_some] <;> rfl), hB HB⟩
     rw [if_pos c78] at H
     have c78b0 : (t686 == t684) = true := beq_iff_eq.mpr c78
     have c78b1 : (t686 != t684) = false := bne_eq_false_iff_eq.mpr c78
     clear c78
     replace H := Option.bind_eq_some_iff.mp H
     obtain ⟨⟨t687, t688, t691, t694⟩, A790, H⟩ := H
     replace H : ((impl_SendOne.f kj48 t687 t688 t691 t694 a1 a2).bind fun bt697 => ((laws_eqHopS.f kj48 bt697.1 t647).bind fun t702 => (if t702 = true then (if (bt697.2.1 != t650) = true then (laws_FnExactSendOne.j2 kj48 t685 t684 true) else (laws_FnExactSendOne.j2 kj48 t685 t684 (bt697.2.2 != t651))) else (laws_FnExactSendOne.j2 kj48 t685 t684 true)))) = some r := H
     have A79 := Aside0.mk A790
     clear A790
     replace H := Option.bind_eq_some_iff.mp H
     obtain ⟨⟨t697, t700, t701⟩, A800, H⟩ := H
     replace H : ((laws_eqHopS.f kj48 t697 t647).bind fun t702 => (if t702 = true then (if (t700 != t650) = true then (laws_FnExactSendOne.j2 kj48 t685 t684 true) else (laws_FnExactSendOne.j2 kj48 t685 t684 (t701 != t651))) else (laws_FnExactSendOne.j2 kj48 t685 t684 true))) = some r := H
     have A80 := Aside0.mk A800
     clear A800
     have HC81 := Aside0.mk H
     clear H
     obtain ⟨Ao82, co82, eo82⟩ := Kd.R_slice HO_12.out
     subst eo82
     go_upto_region 25 with (first | ((with_reducible refine gate_callee (f := 25) rfl ?_); refine goesL_ (some 87) rfl rfl Try.func25 (by kernel_rfl) rfl #[.slice Ao82 t663.length co82, .int .i64 1] rfl tm_ ?_; (with_reducible refine (laws_markHopS.calls kj48 (fun k_ => some k_ = (.slice Ao82 t663.length co82 : Value).ownBlock) (.slice Ao82 t663.length co82) t663 1 t684 t685 w _ ?side1 ?side2 A73.out).mono ?_); (case side1 => exact hB HB); (case side2 => exact Kd.R_tight rfl HO_12.out); rintro e w83 ⟨rfl, hy0, hb, hkp⟩; refine ⟨_, rfl, ?_⟩; replace HO_8 := Aside0.mk (Kd.R_mono (ok' := fun k_ => no_ (.slice Ao82 t663.length co82) k_) (Kd.R_keptB (HO_8.out) hkp (fun k_ hk_ hs_ => (hk_) hs_)) (fun k_ hk_ => hk_.1)); replace HO_663001 := Aside0.mk (Kd.R_mono (ok' := fun k_ => True) (Kd.R_keptB ((Kd.R_apart' HO_663001.out (Kd.R_typed HO_12.out) (by decide))) hkp (fun k_ hk_ hs_ => (hk_.2) hs_)) (fun k_ hk_ => trivial)); replace HO_663002 := Aside0.mk (Kd.R_mono (ok' := fun k_ => True) (Kd.R_keptB ((Kd.R_apart' HO_663002.out (Kd.R_typed HO_12.out) (by decide))) hkp (fun k_ hk_ hs_ => (hk_.2) hs_)) (fun k_ hk_ => trivial)); replace HO_663003 := Aside0.mk (Kd.S_mono (ok' := fun k_ => no_ (.slice Ao29 t682.length co29) k_) (Kd.S_keptB ((Kd.S_apart' HO_663003.out (Kd.R_typed HO_12.out) (by decide))) hkp (fun k_ hk_ hs_ => (hk_.2) hs_)) (fun k_ hk_ => hk_.1.1)); replace BK635 := Aside0.mk (blk_kept (ba BK635.out) hkp (fun hs_ => (fun e_ => (Kd.R_ne HO_12.out BK635.out (by decide)) e_) hs_)); replace BK662 := Aside0.mk (blk_kept (ba BK662.out) hkp (fun hs_ => (fun e_ => (Kd.R_ne HO_12.out BK662.out (by decide)) e_) hs_)); replace HO_12 := Aside0.mk (Kd.R_reok rfl hy0 (fun k_ e_ => HO_12.out.1 k_ e_)); replace HB := Aside0.mk (hb); clear hb) | ((with_reducible refine gate_callee (f := 26) rfl ?_); refine goesL_ (some 90) rfl rfl Try.func26 (by kernel_rfl) rfl #[.slice Ao82 t685.length co82, .int .i64 1] rfl (by (try simp only [List.map_toArray, List.map_cons, List.map_nil]); first | done | (rw [show t685.length = t663.length from (Kd.R_reads' HO_12.out).1.symm] <;> rfl) | rfl | (simp only [List.length_drop, List.length_take]; rfl)) ?_; (with_reducible refine (laws_heldHopS.calls kj48 _ _ t685 1 t686 _ ?side1 ?side2 A74.out).mono ?_); (case side1 => exact ca (Kd.R_reads' HO_12.out).2.2); (case side2 => rw [show t685.length = t663.length from (Kd.R_reads' HO_12.out).1.symm]; exact (Kd.R_reads' HO_12.out).2.1); rintro e w' ⟨rfl, ⟨nd, rfl⟩⟩; refine ⟨_, rfl, ?_⟩; have hnb84 := NB635_662.out; have hnc84 := NB662_635.out; obtain ⟨hcz85_0, hcz85_1, hcz85_2, hcz85_3⟩ := bcs4_ BK635; have hfz85_0 := blk_frozen BK635.out 0; have hfz85_1 := blk_frozen BK635.out 1; have hfz85_2 := blk_frozen BK635.out 2; have hfz85_3 := blk_frozen BK635.out 3) | ((with_reducible refine gate_callee (f := 13) rfl ?_); refine goesL_ (some 98) rfl rfl Try.func13 (by kernel_rfl) rfl #[.agg #[.int .i64 a0_0, .slice A0_1 l0_1.length c0_1, .slice A0_2 l0_2.length c0_2, .slice A0_3 l0_3.length c0_3]] rfl tm_ ?_; (with_reducible refine (laws_toCampus.calls kj48 a0_0 _ _ l0_1 _ _ l0_2 _ _ l0_3 t687 t688 t691 t694 _ ?side1 ?side2 ?side3 ?side4 ?side5 ?side6 A79.out).mono ?_); (case side1 => exact ca (Kd.C_below HR0_1.out (hB HB))); (case side2 => exact HC0_1.out); (case side3 => exact ca (Kd.C_below HR0_2.out (hB HB))); (case side4 => exact HC0_2.out); (case side5 => exact ca (Kd.C_below HR0_3.out (hB HB))); (case side6 => exact HC0_3.out); rintro e w86 ⟨v689, v692, v695, rfl, ho0, ho1, ho2, hb⟩; refine ⟨_, rfl, ?_⟩; have HO690 := Aside0.mk (Kd.R_lower (Kd.R_new' ho0 (rl_ HO_663001)) (below_size (hB HB))); have HO693 := Aside0.mk (Kd.R_lower (Kd.R_new' ho1 (rl_ HO_663002)) (below_size (hB HB))); have HO696 := Aside0.mk (Kd.S_lower (Kd.S_new' (Kd.S_new' ho2 (rl_ HO_663002)) (Kd.S_lt (sa HO_663003.out))) (below_size (hB HB))); replace HO_8 := rb_ HO_8 hb; replace HO_12 := rb_ HO_12 hb; replace HO_663001 := re_ HO_663001 ho0 hb; replace HO_663002 := re_ HO_663002 ho1 hb; replace HO_663003 := Aside0.mk (Kd.S_mono (Kd.S_told (Kd.S_told (Kd.S_old (sa HO_663003.out) hb) (Kd.R_base ho1)) (Kd.S_base ho2)) (fun _ h_ => h_.1)); replace BK635 := bb_ BK635 hb; replace BK662 := bb_ BK662 hb; replace HB := bst_ HB hb; clear hb ho0 ho1 ho2; obtain ⟨Ao87, co87, eo87⟩ := Kd.R_slice HO690.out; subst eo87; obtain ⟨Ao88, co88, eo88⟩ := Kd.R_slice HO693.out; subst eo88; obtain ⟨Ao89, co89, eo89⟩ := Kd.S_slice HO696.out; subst eo89) | ((with_reducible refine gate_callee (f := 23) rfl ?_); refine goesL_ (some 101) rfl rfl Try.func23 (by kernel_rfl) rfl #[.agg #[.int .i64 t687, .slice Ao87 t688.length co87, .slice Ao88 t691.length co88, .slice Ao89 t694.length co89], .int .i64 a1, .int .i64 a2] rfl tm_ ?_; (with_reducible refine (impl_SendOne.calls kj48 t687 _ _ t688 _ _ t691 _ _ t694 a1 a2 t697 t700 t701 _ ?side1 ?side2 ?side3 ?side4 ?side5 ?side6 A80.out).mono ?_); (case side1 => exact ca (Kd.R_reads' HO690.out).2.2); (case side2 => exact (Kd.R_reads' HO690.out).2.1); (case side3 => exact ca (Kd.R_reads' HO693.out).2.2); (case side4 => exact (Kd.R_reads' HO693.out).2.1); (case side5 => exact ca (Kd.S_reads' HO696.out).2.2); (case side6 => exact (Kd.S_reads' HO696.out).2.1); rintro e w90 ⟨v698, rfl, ho0, hb⟩; refine ⟨_, rfl, ?_⟩; have HO699 := Aside0.mk (Kd.R_lower (Kd.R_new' (Kd.R_new' ho0 (rl_ HO_8)) (rl_ HO_12)) (below_size (hB HB))); replace HO_8 := re_ HO_8 ho0 hb; replace HO_12 := re_ HO_12 ho0 hb; replace HO_663001 := rb_ HO_663001 hb; replace HO_663002 := rb_ HO_663002 hb; replace HO_663003 := Aside0.mk (Kd.S_below (sa HO_663003.out) hb); replace HO690 := rb_ HO690 hb; replace HO693 := rb_ HO693 hb; replace HO696 := Aside0.mk (Kd.S_below (sa HO696.out) hb); replace BK635 := bb_ BK635 hb; replace BK662 := bb_ BK662 hb; replace HB := bst_ HB hb; clear hb ho0))
     (try simp only [Act.put, List.setIfInBounds_toArray, List.set_cons_zero, List.set_cons_succ])
     go_cut [118] (fun v118 wc => ∃ (kq : Nat) (x118_80 : Bool), v118 = .bool x118_80 ∧ Aside0 (laws_FnExactSendOne.j2 kq t685 t684 x118_80 = some r) ∧ Aside0 (kq ≤ kj48) ∧ Aside0 (Kd.R k95 95 wc w.heap.size (fun _ => True) (.slice Ao82 t663.length co82) t685) ∧ Aside0 (Kd.R k86 86 wc w.heap.size (fun _ => True) (.slice Ao28 t681.length co28) t681) ∧ Aside0 (Kd.R (Kd.int .i64) 3 wc w.heap.size (fun _ => True) (.slice Ao29 t682.length co29) t682) ∧ Aside0 (Kd.S k130 130 wc w.heap.size (fun k_ => no_ (.slice Ao29 t682.length co29) k_) (.slice Ao30 t659.length co30) t659b) ∧ Aside0 (wc.heap[gb635]? = some (.cells #[.int .i64 a0_0, (.slice A0_1 l0_1.length c0_1), (.slice A0_2 l0_2.length c0_2), (.slice A0_3 l0_3.length c0_3)] 26 (0, 0))) ∧ Aside0 (wc.heap[gb662]? = some (.cells #[.int .i64 t652, (.slice Ao28 t681.length co28), (.slice Ao29 t682.length co29), (.slice Ao30 t659.length co30)] 33 (0, 0))) ∧ Aside0 (Below w.heap.size w wc))
     case first =>
      have H := HC81.out
      clear HC81
      replace H := Option.bind_eq_some_iff.mp H
      obtain ⟨t702, A910, H⟩ := H
      replace H : (if t702 = true then (if (t700 != t650) = true then (laws_FnExactSendOne.j2 kj48 t685 t684 true) else (laws_FnExactSendOne.j2 kj48 t685 t684 (t701 != t651))) else (laws_FnExactSendOne.j2 kj48 t685 t684 true)) = some r := H
      have A91 := Aside0.mk A910
      clear A910
      by_cases c92 : t702 = true
      rotate_left
      ·replace c92 := Bool.eq_false_iff.mpr c92
       subst c92
       rw [if_neg (show ¬ (false = true) by decide)] at H
       have H' := Aside0.mk H
       clear H
       obtain ⟨Ao100, co100, eo100⟩ := Kd.R_slice HO699.out
       subst eo100
       obtain ⟨Ao101, co101, eo101⟩ := Kd.R_slice HO_8.out
       subst eo101
       go_wp2_with (first | ((with_reducible refine gate_callee (f := 24) rfl ?_); refine goesL_ (some 107) rfl rfl Try.func24 (by kernel_rfl) rfl #[.slice Ao100 t697.length co100, .slice Ao101 t647.length co101] rfl tm_ ?_; (with_reducible refine (laws_eqHopS.calls kj48 _ _ t697 _ _ t647 false _ ?side1 ?side2 ?side3 ?side4 A91.out).mono ?_); (case side1 => exact ca (Kd.R_reads' HO699.out).2.2); (case side2 => exact (Kd.R_reads' HO699.out).2.1); (case side3 => exact ca (Kd.R_reads' HO_8.out).2.2); (case side4 => exact (Kd.R_reads' HO_8.out).2.1); rintro e w102 ⟨rfl, hb⟩; refine ⟨_, rfl, ?_⟩; replace HO_8 := rb_ HO_8 hb; replace HO_12 := rb_ HO_12 hb; replace HO_663001 := rb_ HO_663001 hb; replace HO_663002 := rb_ HO_663002 hb; replace HO_663003 := Aside0.mk (Kd.S_below (sa HO_663003.out) hb); replace HO690 := rb_ HO690 hb; replace HO693 := rb_ HO693 hb; replace HO696 := Aside0.mk (Kd.S_below (sa HO696.out) hb); replace HO699 := rb_ HO699 hb; replace BK635 := bb_ BK635 hb; replace BK662 := bb_ BK662 hb; replace HB := bst_ HB hb; clear hb))
       go_meet
       case rel => exact ⟨_, (true), (by first | rfl | (simp; done) | (simp [*]; done)), H', ⟨by have := HJ12.out; have := HJ48.out; first | omega | exact Nat.le_refl _⟩, ⟨by (try simp only [hl663001_48]); (try simp only [hl663002_48]); (with_reducible repeat (first | apply Kd.R_alloc | apply Kd.R_drewN | apply Kd.R_drew)); exact Kd.R_mono HO_12.out (fun _ hk => trivial)⟩, ⟨by (try simp only [hl663001_48]); (try simp only [hl663002_48]); (with_reducible repeat (first | apply Kd.R_alloc | apply Kd.R_drewN | apply Kd.R_drew)); exact Kd.R_mono HO_663001.out (fun _ hk => trivial)⟩, ⟨by (try simp only [hl663001_48]); (try simp only [hl663002_48]); (with_reducible repeat (first | apply Kd.R_alloc | apply Kd.R_drewN | apply Kd.R_drew)); exact Kd.R_mono HO_663002.out (fun _ hk => trivial)⟩, ⟨by (try simp only [hl663001_48]); (try simp only [hl663002_48]); (with_reducible repeat (first | apply Kd.S_alloc | apply Kd.S_drewN | apply Kd.S_drew)); exact Kd.S_mono HO_663003.out (fun _ hk => hk.1.1)⟩, ⟨by (try simp only [hl663001_48]); (try simp only [hl663002_48]); (with_reducible repeat (first | refine blk_drewN ?_ _ | refine blk_drew ?_ | refine blk_alloc ?_ _)); exact BK635.out⟩, ⟨by (try simp only [hl663001_48]); (try simp only [hl663002_48]); (with_reducible repeat (first | refine blk_drewN ?_ _ | refine blk_drew ?_ | refine blk_alloc ?_ _)); exact BK662.out⟩, ⟨hB HB⟩⟩
      subst c92
      rw [if_pos rfl] at H
      by_cases c93 : (t700 != t650) = true
      rotate_left
      ·rw [if_neg c93] at H
       have c93b0 : (t700 != t650) = false := by simpa using c93
       (try (have c93b1 : decide (t700 = t650) = true := by simpa using c93))
       (try (have c93b2 : (t700 == t650) = true := by simpa using c93))
       clear c93
       (first | rw [c93b0] | (simp only [i64_w, i32_w]; rw [c93b0]) | skip)
       have H' := Aside0.mk H
       clear H
       obtain ⟨Ao97, co97, eo97⟩ := Kd.R_slice HO699.out
       subst eo97
       obtain ⟨Ao98, co98, eo98⟩ := Kd.R_slice HO_8.out
       subst eo98
       go_wp2_with (first | ((with_reducible refine gate_callee (f := 24) rfl ?_); refine goesL_ (some 107) rfl rfl Try.func24 (by kernel_rfl) rfl #[.slice Ao97 t697.length co97, .slice Ao98 t647.length co98] rfl tm_ ?_; (with_reducible refine (laws_eqHopS.calls kj48 _ _ t697 _ _ t647 true _ ?side1 ?side2 ?side3 ?side4 A91.out).mono ?_); (case side1 => exact ca (Kd.R_reads' HO699.out).2.2); (case side2 => exact (Kd.R_reads' HO699.out).2.1); (case side3 => exact ca (Kd.R_reads' HO_8.out).2.2); (case side4 => exact (Kd.R_reads' HO_8.out).2.1); rintro e w99 ⟨rfl, hb⟩; refine ⟨_, rfl, ?_⟩; replace HO_8 := rb_ HO_8 hb; replace HO_12 := rb_ HO_12 hb; replace HO_663001 := rb_ HO_663001 hb; replace HO_663002 := rb_ HO_663002 hb; replace HO_663003 := Aside0.mk (Kd.S_below (sa HO_663003.out) hb); replace HO690 := rb_ HO690 hb; replace HO693 := rb_ HO693 hb; replace HO696 := Aside0.mk (Kd.S_below (sa HO696.out) hb); replace HO699 := rb_ HO699 hb; replace BK635 := bb_ BK635 hb; replace BK662 := bb_ BK662 hb; replace HB := bst_ HB hb; clear hb))
       go_meet
       case rel => exact ⟨_, ((t701 != t651)), (by first | rfl | (simp; done) | (simp [*]; done)), H', ⟨by have := HJ12.out; have := HJ48.out; first | omega | exact Nat.le_refl _⟩, ⟨by (try simp only [hl663001_48]); (try simp only [hl663002_48]); (with_reducible repeat (first | apply Kd.R_alloc | apply Kd.R_drewN | apply Kd.R_drew)); exact Kd.R_mono HO_12.out (fun _ hk => trivial)⟩, ⟨by (try simp only [hl663001_48]); (try simp only [hl663002_48]); (with_reducible repeat (first | apply Kd.R_alloc | apply Kd.R_drewN | apply Kd.R_drew)); exact Kd.R_mono HO_663001.out (fun _ hk => trivial)⟩, ⟨by (try simp only [hl663001_48]); (try simp only [hl663002_48]); (with_reducible repeat (first | apply Kd.R_alloc | apply Kd.R_drewN | apply Kd.R_drew)); exact Kd.R_mono HO_663002.out (fun _ hk => trivial)⟩, ⟨by (try simp only [hl663001_48]); (try simp only [hl663002_48]); (with_reducible repeat (first | apply Kd.S_alloc | apply Kd.S_drewN | apply Kd.S_drew)); exact Kd.S_mono HO_663003.out (fun _ hk => hk.1.1)⟩, ⟨by (try simp only [hl663001_48]); (try simp only [hl663002_48]); (with_reducible repeat (first | refine blk_drewN ?_ _ | refine blk_drew ?_ | refine blk_alloc ?_ _)); exact BK635.out⟩, ⟨by (try simp only [hl663001_48]); (try simp only [hl663002_48]); (with_reducible repeat (first | refine blk_drewN ?_ _ | refine blk_drew ?_ | refine blk_alloc ?_ _)); exact BK662.out⟩, ⟨hB HB⟩⟩
      rw [if_pos c93] at H
      have c93b0 : (t700 != t650) = true := c93
      (try (have c93b1 : decide (t700 = t650) = false := by simpa using c93))
      (try (have c93b2 : (t700 == t650) = false := by simpa using c93))
      (try (have c93b3 : ¬ (t700 = t650) := by simpa using c93))
      clear c93
      (first | rw [c93b0] | (simp only [i64_w, i32_w]; rw [c93b0]) | skip)
      have H' := Aside0.mk H
      clear H
      obtain ⟨Ao94, co94, eo94⟩ := Kd.R_slice HO699.out
      subst eo94
      obtain ⟨Ao95, co95, eo95⟩ := Kd.R_slice HO_8.out
      subst eo95
      go_wp2_with (first | ((with_reducible refine gate_callee (f := 24) rfl ?_); refine goesL_ (some 107) rfl rfl Try.func24 (by kernel_rfl) rfl #[.slice Ao94 t697.length co94, .slice Ao95 t647.length co95] rfl tm_ ?_; (with_reducible refine (laws_eqHopS.calls kj48 _ _ t697 _ _ t647 true _ ?side1 ?side2 ?side3 ?side4 A91.out).mono ?_); (case side1 => exact ca (Kd.R_reads' HO699.out).2.2); (case side2 => exact (Kd.R_reads' HO699.out).2.1); (case side3 => exact ca (Kd.R_reads' HO_8.out).2.2); (case side4 => exact (Kd.R_reads' HO_8.out).2.1); rintro e w96 ⟨rfl, hb⟩; refine ⟨_, rfl, ?_⟩; replace HO_8 := rb_ HO_8 hb; replace HO_12 := rb_ HO_12 hb; replace HO_663001 := rb_ HO_663001 hb; replace HO_663002 := rb_ HO_663002 hb; replace HO_663003 := Aside0.mk (Kd.S_below (sa HO_663003.out) hb); replace HO690 := rb_ HO690 hb; replace HO693 := rb_ HO693 hb; replace HO696 := Aside0.mk (Kd.S_below (sa HO696.out) hb); replace HO699 := rb_ HO699 hb; replace BK635 := bb_ BK635 hb; replace BK662 := bb_ BK662 hb; replace HB := bst_ HB hb; clear hb))
      go_meet
      case rel => exact ⟨_, (true), (by first | rfl | (simp; done) | (simp [*]; done)), H', ⟨by have := HJ12.out; have := HJ48.out; first | omega | exact Nat.le_refl _⟩, ⟨by (try simp only [hl663001_48]); (try simp only [hl663002_48]); (with_reducible repeat (first | apply Kd.R_alloc | apply Kd.R_drewN | apply Kd.R_drew)); exact Kd.R_mono HO_12.out (fun _ hk => trivial)⟩, ⟨by (try simp only [hl663001_48]); (try simp only [hl663002_48]); (with_reducible repeat (first | apply Kd.R_alloc | apply Kd.R_drewN | apply Kd.R_drew)); exact Kd.R_mono HO_663001.out (fun _ hk => trivial)⟩, ⟨by (try simp only [hl663001_48]); (try simp only [hl663002_48]); (with_reducible repeat (first | apply Kd.R_alloc | apply Kd.R_drewN | apply Kd.R_drew)); exact Kd.R_mono HO_663002.out (fun _ hk => trivial)⟩, ⟨by (try simp only [hl663001_48]); (try simp only [hl663002_48]); (with_reducible repeat (first | apply Kd.S_alloc | apply Kd.S_drewN | apply Kd.S_drew)); exact Kd.S_mono HO_663003.out (fun _ hk => hk.1.1)⟩, ⟨by (try simp only [hl663001_48]); (try simp only [hl663002_48]); (with_reducible repeat (first | refine blk_drewN ?_ _ | refine blk_drew ?_ | refine blk_alloc ?_ _)); exact BK635.out⟩, ⟨by (try simp only [hl663001_48]); (try simp only [hl663002_48]); (with_reducible repeat (first | refine blk_drewN ?_ _ | refine blk_drew ?_ | refine blk_alloc ?_ _)); exact BK662.out⟩, ⟨hB HB⟩⟩
     case rest =>
      clear HC81
      try clear c5
      try clear c5b0
      try clear c44
      try clear c47
      try clear c72
      try clear c75
      try clear c75b0
      try clear c78
      try clear c78b0
      try clear c78b1
      try clear hcz15_0
      try clear hcz15_1
      try clear hcz15_2
      try clear hcz15_3
      try clear hcz17_0
      try clear hcz17_1
      try clear hcz17_2
      try clear hcz17_3
      try clear hcz23_0
      try clear hcz23_1
      try clear hcz23_2
      try clear hcz23_3
      try clear hcz27_0
      try clear hcz27_1
      try clear hcz27_2
      try clear hcz27_3
      try clear hcz57_0
      try clear hcz57_1
      try clear hcz57_2
      try clear hcz57_3
      try clear hcz85_0
      try clear hcz85_1
      try clear hcz85_2
      try clear hcz85_3
      try clear hfz15_0
      try clear hfz15_1
      try clear hfz15_2
      try clear hfz15_3
      try clear hfz17_0
      try clear hfz17_1
      try clear hfz17_2
      try clear hfz17_3
      try clear hfz23_0
      try clear hfz23_1
      try clear hfz23_2
      try clear hfz23_3
      try clear hfz27_0
      try clear hfz27_1
      try clear hfz27_2
      try clear hfz27_3
      try clear hfz57_0
      try clear hfz57_1
      try clear hfz57_2
      try clear hfz57_3
      try clear hfz85_0
      try clear hfz85_1
      try clear hfz85_2
      try clear hfz85_3
      obtain ⟨kq, x118_80, rfl, HA, HJ80, HO_12, HO_663001, HO_663002, HO_663003, BK635, BK662, HB⟩ := hcut
      have hl12_80 := (Kd.R_reads' HO_12.out).1
      rw [hl12_80] at HO_12
      (try simp only [hl12_80])
      (try simp only [hl12_80] at BK635)
      (try simp only [hl12_80] at BK662)
      (try simp only [hl12_80] at HO_663001)
      (try simp only [hl12_80] at HO_663002)
      (try simp only [hl12_80] at HO_663003)
      cases kq with
      | zero => exact absurd HA.out (by simp [laws_FnExactSendOne.j2])
      | succ kj80 =>
       have H := HA.out
       clear HA
       simp only [laws_FnExactSendOne.j2] at H
       by_cases c103 : x118_80 = true
       ·subst c103
        rw [if_pos rfl] at H
        obtain rfl := Option.some.inj H
        go_wp2
        go_ret
        exact ⟨by first | rfl | (simp [errW_none, errW_some] <;> rfl) | (simp [*, errW_none, errW_some] <;> rfl), hB HB⟩
       replace c103 := Bool.eq_false_iff.mpr c103
       subst c103
       rw [if_neg (show ¬ (false = true) by decide)] at H
       replace H := Option.bind_eq_some_iff.mp H
       obtain ⟨t703, A1040, H⟩ := H
       replace H : (if t703 < 0 then (some false) else (if t703 = t684 then (some true) else (some false))) = some r := H
       have A104 := Aside0.mk A1040
       clear A1040
       by_cases c105 : t703 < 0
       ·rw [if_pos c105] at H
        have c105b0 : decide (t703 < 0) = true := decide_eq_true c105
        clear c105
        obtain rfl := Option.some.inj H
        go_wp2_with (first | ((with_reducible refine gate_callee (f := 26) rfl ?_); refine goesL_ (some 121) rfl rfl Try.func26 (by kernel_rfl) rfl #[.slice Ao82 t685.length co82, .int .i64 1] rfl tm_ ?_; (with_reducible refine (laws_heldHopS.calls kj80 _ _ t685 1 t703 _ ?side1 ?side2 A104.out).mono ?_); (case side1 => exact ca (Kd.R_reads' HO_12.out).2.2); (case side2 => exact (Kd.R_reads' HO_12.out).2.1); rintro e w' ⟨rfl, ⟨nd, rfl⟩⟩; refine ⟨_, rfl, ?_⟩))
        go_ret
        exact ⟨by first | rfl | (simp [errW_none, errW_some] <;> rfl) | (simp [*, errW_none, errW_some] <;> rfl), hB HB⟩
       rw [if_neg c105] at H
       have c105b0 : decide (t703 < 0) = false := decide_eq_false c105
       clear c105
       by_cases c106 : t703 = t684
       rotate_left
       ·rw [if_neg c106] at H
        have c106b0 : (t703 == t684) = false := beq_eq_false_iff_ne.mpr c106
        have c106b1 : (t703 != t684) = true := bne_iff_ne.mpr c106
        obtain rfl := Option.some.inj H
        go_wp2_with (first | ((with_reducible refine gate_callee (f := 26) rfl ?_); refine goesL_ (some 121) rfl rfl Try.func26 (by kernel_rfl) rfl #[.slice Ao82 t685.length co82, .int .i64 1] rfl tm_ ?_; (with_reducible refine (laws_heldHopS.calls kj80 _ _ t685 1 t703 _ ?side1 ?side2 A104.out).mono ?_); (case side1 => exact ca (Kd.R_reads' HO_12.out).2.2); (case side2 => exact (Kd.R_reads' HO_12.out).2.1); rintro e w' ⟨rfl, ⟨nd, rfl⟩⟩; refine ⟨_, rfl, ?_⟩))
        go_ret
        exact ⟨by first | rfl | (simp [errW_none, errW_some] <;> rfl) | (simp [*, errW_none, errW_some] <;> rfl), hB HB⟩
       rw [if_pos c106] at H
       have c106b0 : (t703 == t684) = true := beq_iff_eq.mpr c106
       have c106b1 : (t703 != t684) = false := bne_eq_false_iff_eq.mpr c106
       clear c106
       obtain rfl := Option.some.inj H
       go_wp2_with (first | ((with_reducible refine gate_callee (f := 26) rfl ?_); refine goesL_ (some 121) rfl rfl Try.func26 (by kernel_rfl) rfl #[.slice Ao82 t685.length co82, .int .i64 1] rfl tm_ ?_; (with_reducible refine (laws_heldHopS.calls kj80 _ _ t685 1 t703 _ ?side1 ?side2 A104.out).mono ?_); (case side1 => exact ca (Kd.R_reads' HO_12.out).2.2); (case side2 => exact (Kd.R_reads' HO_12.out).2.1); rintro e w' ⟨rfl, ⟨nd, rfl⟩⟩; refine ⟨_, rfl, ?_⟩))
       go_ret
       exact ⟨by first | rfl | (simp [errW_none, errW_some] <;> rfl) | (simp [*, errW_none, errW_some] <;> rfl), hB HB⟩

-- NOT PRINTED: function 69 (spec_l16W_walk)

-- NOT PRINTED: function 28 (spec_LowsOf)

-- NOT PRINTED: function 72 (impl_walk_visit)

-- NOT PRINTED: function 30 (impl_LowsOf)

end Go.Proofs.Ytpohlcjkabojcaa.P
