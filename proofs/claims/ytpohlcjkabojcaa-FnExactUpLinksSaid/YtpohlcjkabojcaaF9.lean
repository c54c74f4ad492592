import Derived.Test.YtpohlcjkabojcaaF0
import Derived.Test.YtpohlcjkabojcaaF1
import Derived.Test.YtpohlcjkabojcaaF3
import Derived.Test.YtpohlcjkabojcaaF6
import Derived.Test.YtpohlcjkabojcaaF7
import Derived.Test.YtpohlcjkabojcaaF8
import Derived.Test.YtpohlcjkabojcaaF10
namespace Go.Proofs.Ytpohlcjkabojcaa.P
open Go.RowKit Go.Proofs.YtpohlcjkabojcaaW.PrintWords Go.Proofs.YtpohlcjkabojcaaW.PrintLast Go.Proofs.YtpohlcjkabojcaaW.PrintMore
attribute [local go_sem] max2_int min2_int max_two min_two max_three min_three max_four min_four   -- for this text's walks alone
set_option linter.unusedVariables false
set_option linter.unusedSimpArgs false

mutual
def laws_FnExactUpLinks.j0 : Nat → List (S86) → Bool → List (S86) → Bool → Bool → Int → List (S105) → List Int → List (S129) → Int → List (S86) → List Int → List (S130) → Option (Bool)
 | 0, _, _, _, _, _, _, _, _, _, _, _, _, _ => none
 | k + 1, x4, x5, x7, x8, x40, x274000, x274001, x274002, x274003, x300000, x300001, x300002, x300003 => if x40 = true then (some false) else ((laws_toCampus.f k x274000 x274001 x274002 x274003).bind fun bt305 => ((laws_eqCampus.f k x300000 x300001 x300002 x300003 bt305.1 bt305.2.1 bt305.2.2.1 bt305.2.2.2).bind fun t315 => (if t315 = true then ((laws_markCampus.f k x300000 x300001 x300002 x300003 1).bind fun bt316 => (if bt316.1 < 0 then (laws_FnExactUpLinks.j1 k x4 x5 x7 true x274000 x274001 x274002 x274003) else ((laws_eqEdgeS.f k x7 x4).bind fun t319 => (if t319 = true then (laws_FnExactUpLinks.j1 k x4 x5 x7 (x8 != x5) x274000 x274001 x274002 x274003) else (laws_FnExactUpLinks.j1 k x4 x5 x7 true x274000 x274001 x274002 x274003))))) else (some false))))
def laws_FnExactUpLinks.j1 : Nat → List (S86) → Bool → List (S86) → Bool → Int → List (S105) → List Int → List (S129) → Option (Bool)
 | 0, _, _, _, _, _, _, _, _ => none
 | k + 1, x4, x5, x7, x61, x274000, x274001, x274002, x274003 => if x61 = true then (some false) else ((laws_markEdgeS.f k x7 1).bind fun bt320 => ((laws_heldEdgeS.f k bt320.2 1).bind fun t322 => (if t322 < 0 then (some false) else (if t322 = bt320.1 then ((laws_toCampus.f k x274000 x274001 x274002 x274003).bind fun bt323 => ((impl_UpLinks.f k bt323.1 bt323.2.1 bt323.2.2.1 bt323.2.2.2).bind fun bt333 => ((laws_eqEdgeS.f k bt333.1 x4).bind fun t337 => (if t337 = true then (laws_FnExactUpLinks.j2 k bt320.2 bt320.1 (bt333.2 != x5)) else (laws_FnExactUpLinks.j2 k bt320.2 bt320.1 true))))) else (some false)))))
def laws_FnExactUpLinks.j2 : Nat → List (S86) → Int → Bool → Option (Bool)
 | 0, _, _, _ => none
 | k + 1, x7, x10, x87 => if x87 = true then (some false) else ((laws_heldEdgeS.f k x7 1).bind fun t338 => (if t338 < 0 then (some false) else (if t338 = x10 then (some true) else (some false))))
end
def laws_FnExactUpLinks.f (k : Nat) (a0_0 : Int) (l0_1 : List (S105)) (l0_2 : List Int) (l0_3 : List (S129)) : Option (Bool) := (laws_szCampus.f k a0_0 l0_1 l0_2 l0_3 1048576).bind fun t274 => (if t274 < 0 then (some true) else ((laws_toCampus.f k a0_0 l0_1 l0_2 l0_3).bind fun bt275 => ((spec_UpLinks.f k bt275.1 bt275.2.1 bt275.2.2.1 bt275.2.2.2).bind fun bt285 => ((laws_toCampus.f k a0_0 l0_1 l0_2 l0_3).bind fun bt289 => ((impl_UpLinks.f k bt289.1 bt289.2.1 bt289.2.2.1 bt289.2.2.2).bind fun bt300 => ((laws_eqEdgeS.f k bt300.1 bt285.1).bind fun t304 => (if t304 = true then (laws_FnExactUpLinks.j0 k bt285.1 bt285.2 bt300.1 bt300.2 (bt300.2 != bt285.2) a0_0 l0_1 l0_2 l0_3 bt289.1 bt289.2.1 bt289.2.2.1 bt289.2.2.2) else (laws_FnExactUpLinks.j0 k bt285.1 bt285.2 bt300.1 bt300.2 true a0_0 l0_1 l0_2 l0_3 bt289.1 bt289.2.1 bt289.2.2.1 bt289.2.2.2))))))))
theorem laws_FnExactUpLinks.mono_l : ∀ k, (∀ y0 y1 y2 y3 y4 y5 y6 y7 y8 y9 y10 y11 y12, LeO (laws_FnExactUpLinks.j0 k y0 y1 y2 y3 y4 y5 y6 y7 y8 y9 y10 y11 y12) (laws_FnExactUpLinks.j0 (k + 1) y0 y1 y2 y3 y4 y5 y6 y7 y8 y9 y10 y11 y12)) ∧ (∀ y0 y1 y2 y3 y4 y5 y6 y7, LeO (laws_FnExactUpLinks.j1 k y0 y1 y2 y3 y4 y5 y6 y7) (laws_FnExactUpLinks.j1 (k + 1) y0 y1 y2 y3 y4 y5 y6 y7)) ∧ (∀ y0 y1 y2, LeO (laws_FnExactUpLinks.j2 k y0 y1 y2) (laws_FnExactUpLinks.j2 (k + 1) y0 y1 y2))
 | 0 => ⟨fun _ _ _ _ _ _ _ _ _ _ _ _ _ r h => by simp [laws_FnExactUpLinks.j0] at h, fun _ _ _ _ _ _ _ _ r h => by simp [laws_FnExactUpLinks.j1] at h, fun _ _ _ r h => by simp [laws_FnExactUpLinks.j2] at h⟩
 | k + 1 => by
  obtain ⟨ih0, ih1, ih2⟩ := laws_FnExactUpLinks.mono_l k
  refine ⟨?_, ?_, ?_⟩
  ·intro y0 y1 y2 y3 y4 y5 y6 y7 y8 y9 y10 y11 y12
   unfold laws_FnExactUpLinks.j0
   repeat' first
   | (with_reducible exact ih0 _ _ _ _ _ _ _ _ _ _ _ _ _)
   | (with_reducible exact ih1 _ _ _ _ _ _ _ _)
   | (with_reducible exact ih2 _ _ _)
   | (with_reducible exact impl_UpLinks.mono _ _ _ _ _)
   | (with_reducible exact laws_eqCampus.mono _ _ _ _ _ _ _ _ _)
   | (with_reducible exact laws_eqEdgeS.mono _ _ _)
   | (with_reducible exact laws_heldEdgeS.mono _ _ _)
   | (with_reducible exact laws_markCampus.mono _ _ _ _ _ _)
   | (with_reducible exact laws_markEdgeS.mono _ _ _)
   | (with_reducible exact laws_szCampus.mono _ _ _ _ _ _)
   | (with_reducible exact laws_toCampus.mono _ _ _ _ _)
   | (with_reducible exact spec_UpLinks.mono _ _ _ _ _)
   | (with_reducible exact LeO.refl _)
   | (with_reducible exact LeO.none _)
   | (with_reducible refine LeO.ite ?_ ?_)
   | (with_reducible refine LeO.bind ?_ (fun _ => ?_))
  ·intro y0 y1 y2 y3 y4 y5 y6 y7
   unfold laws_FnExactUpLinks.j1
   repeat' first
   | (with_reducible exact ih0 _ _ _ _ _ _ _ _ _ _ _ _ _)
   | (with_reducible exact ih1 _ _ _ _ _ _ _ _)
   | (with_reducible exact ih2 _ _ _)
   | (with_reducible exact impl_UpLinks.mono _ _ _ _ _)
   | (with_reducible exact laws_eqCampus.mono _ _ _ _ _ _ _ _ _)
   | (with_reducible exact laws_eqEdgeS.mono _ _ _)
   | (with_reducible exact laws_heldEdgeS.mono _ _ _)
   | (with_reducible exact laws_markCampus.mono _ _ _ _ _ _)
   | (with_reducible exact laws_markEdgeS.mono _ _ _)
   | (with_reducible exact laws_szCampus.mono _ _ _ _ _ _)
   | (with_reducible exact laws_toCampus.mono _ _ _ _ _)
   | (with_reducible exact spec_UpLinks.mono _ _ _ _ _)
   | (with_reducible exact LeO.refl _)
   | (with_reducible exact LeO.none _)
   | (with_reducible refine LeO.ite ?_ ?_)
   | (with_reducible refine LeO.bind ?_ (fun _ => ?_))
  ·intro y0 y1 y2
   unfold laws_FnExactUpLinks.j2
   repeat' first
   | (with_reducible exact ih0 _ _ _ _ _ _ _ _ _ _ _ _ _)
   | (with_reducible exact ih1 _ _ _ _ _ _ _ _)
   | (with_reducible exact ih2 _ _ _)
   | (with_reducible exact impl_UpLinks.mono _ _ _ _ _)
   | (with_reducible exact laws_eqCampus.mono _ _ _ _ _ _ _ _ _)
   | (with_reducible exact laws_eqEdgeS.mono _ _ _)
   | (with_reducible exact laws_heldEdgeS.mono _ _ _)
   | (with_reducible exact laws_markCampus.mono _ _ _ _ _ _)
   | (with_reducible exact laws_markEdgeS.mono _ _ _)
   | (with_reducible exact laws_szCampus.mono _ _ _ _ _ _)
   | (with_reducible exact laws_toCampus.mono _ _ _ _ _)
   | (with_reducible exact spec_UpLinks.mono _ _ _ _ _)
   | (with_reducible exact LeO.refl _)
   | (with_reducible exact LeO.none _)
   | (with_reducible refine LeO.ite ?_ ?_)
   | (with_reducible refine LeO.bind ?_ (fun _ => ?_))
theorem laws_FnExactUpLinks.mono : ∀ a0 a1 a2 a3 k, LeO (laws_FnExactUpLinks.f k a0 a1 a2 a3) (laws_FnExactUpLinks.f (k + 1) a0 a1 a2 a3) := by
 intro a0 a1 a2 a3 k
 obtain ⟨ih0, ih1, ih2⟩ := laws_FnExactUpLinks.mono_l k
 unfold laws_FnExactUpLinks.f
 repeat' first
   | (with_reducible exact ih0 _ _ _ _ _ _ _ _ _ _ _ _ _)
   | (with_reducible exact ih1 _ _ _ _ _ _ _ _)
   | (with_reducible exact ih2 _ _ _)
   | (with_reducible exact impl_UpLinks.mono _ _ _ _ _)
   | (with_reducible exact laws_eqCampus.mono _ _ _ _ _ _ _ _ _)
   | (with_reducible exact laws_eqEdgeS.mono _ _ _)
   | (with_reducible exact laws_heldEdgeS.mono _ _ _)
   | (with_reducible exact laws_markCampus.mono _ _ _ _ _ _)
   | (with_reducible exact laws_markEdgeS.mono _ _ _)
   | (with_reducible exact laws_szCampus.mono _ _ _ _ _ _)
   | (with_reducible exact laws_toCampus.mono _ _ _ _ _)
   | (with_reducible exact spec_UpLinks.mono _ _ _ _ _)
   | (with_reducible exact LeO.refl _)
   | (with_reducible exact LeO.none _)
   | (with_reducible refine LeO.ite ?_ ?_)
   | (with_reducible refine LeO.bind ?_ (fun _ => ?_))
theorem laws_FnExactUpLinks.ts_ {W : World} {k b b' : Nat} {Q : Prop} {L1 L2 : List Nat} (x : b ≤ k ∧ k < W.heap.size ∧ ∃ q, q ∈ L1 ∧ ∃ cells, W.heap[k]? = some (.cells cells q (0, 0))) (y : Q ∧ b' ≤ k ∧ k < W.heap.size ∧ ∃ q, q ∈ L2 ∧ ∃ cells, W.heap[k]? = some (.cells cells q (0, 0))) (hd : ∀ q, q ∈ L1 → q ∉ L2) : False := by
 obtain ⟨_, _, q, hq, cs, hc⟩ := x
 obtain ⟨_, _, _, q', hq', cs', hc'⟩ := y
 rw [hc] at hc'
 injection hc' with hc'
 injection hc' with _ hc'
 subst hc'
 exact hd _ hq hq'
theorem laws_FnExactUpLinks.tb_ {W : World} {k b' t : Nat} {cs : Array Value} {Q : Prop} {L2 : List Nat} (x : W.heap[k]? = some (.cells cs t (0, 0))) (y : Q ∧ b' ≤ k ∧ k < W.heap.size ∧ ∃ q, q ∈ L2 ∧ ∃ cells, W.heap[k]? = some (.cells cells q (0, 0))) (hd : t ∉ L2) : False := by
 obtain ⟨_, _, _, q', hq', cs', hc'⟩ := y
 rw [x] at hc'
 injection hc' with hc'
 injection hc' with _ hc'
 subst hc'
 exact hd hq'
set_option maxHeartbeats 8000000 in
set_option maxRecDepth 100000 in
theorem laws_FnExactUpLinks.calls (k : Nat) (a0_0 : Int) (A0_1 : Option Addr) (c0_1 : Nat) (l0_1 : List (S105)) (A0_2 : Option Addr) (c0_2 : Nat) (l0_2 : List Int) (A0_3 : Option Addr) (c0_3 : Nat) (l0_3 : List (S129)) (r : Bool) (w : World) (hr0_1 : Kd.C k105 w A0_1 l0_1.length l0_1) (hc0_1 : l0_1.length ≤ c0_1) (hr0_2 : Kd.C (Kd.int .i64) w A0_2 l0_2.length l0_2) (hc0_2 : l0_2.length ≤ c0_2) (hr0_3 : Kd.C k129 w A0_3 l0_3.length l0_3) (hc0_3 : l0_3.length ≤ c0_3) (h : laws_FnExactUpLinks.f k a0_0 l0_1 l0_2 l0_3 = some r) :
  Calls Try.prog 3 #[.agg #[.int .i64 a0_0, .slice A0_1 l0_1.length c0_1, .slice A0_2 l0_2.length c0_2, .slice A0_3 l0_3.length c0_3]] w fun e w' => e = .returned (.bool r) ∧ Below w.heap.size w w' := by
 have hu26 := Try.underlying26
 have hu33 := Try.underlying33
 have HR0_1 := Aside0.mk hr0_1
 have HC0_1 := Aside0.mk hc0_1
 clear hr0_1 hc0_1
 have HR0_2 := Aside0.mk hr0_2
 have HC0_2 := Aside0.mk hc0_2
 clear hr0_2 hc0_2
 have HR0_3 := Aside0.mk hr0_3
 have HC0_3 := Aside0.mk hc0_3
 clear hr0_3 hc0_3
 have HB := Aside0.mk (Below.refl w.heap.size w)
 have H : ((laws_szCampus.f k a0_0 l0_1 l0_2 l0_3 1048576).bind fun t274 => (if t274 < 0 then (some true) else ((laws_toCampus.f k a0_0 l0_1 l0_2 l0_3).bind fun bt275 => ((spec_UpLinks.f k bt275.1 bt275.2.1 bt275.2.2.1 bt275.2.2.2).bind fun bt285 => ((laws_toCampus.f k a0_0 l0_1 l0_2 l0_3).bind fun bt289 => ((impl_UpLinks.f k bt289.1 bt289.2.1 bt289.2.2.1 bt289.2.2.2).bind fun bt300 => ((laws_eqEdgeS.f k bt300.1 bt285.1).bind fun t304 => (if t304 = true then (laws_FnExactUpLinks.j0 k bt285.1 bt285.2 bt300.1 bt300.2 (bt300.2 != bt285.2) a0_0 l0_1 l0_2 l0_3 bt289.1 bt289.2.1 bt289.2.2.1 bt289.2.2.2) else (laws_FnExactUpLinks.j0 k bt285.1 bt285.2 bt300.1 bt300.2 true a0_0 l0_1 l0_2 l0_3 bt289.1 bt289.2.1 bt289.2.2.1 bt289.2.2.2))))))))) = some r := h
 clear h
 replace H := Option.bind_eq_some_iff.mp H
 obtain ⟨t274, A20, H⟩ := H
 replace H : (if t274 < 0 then (some true) else ((laws_toCampus.f k a0_0 l0_1 l0_2 l0_3).bind fun bt275 => ((spec_UpLinks.f k bt275.1 bt275.2.1 bt275.2.2.1 bt275.2.2.2).bind fun bt285 => ((laws_toCampus.f k a0_0 l0_1 l0_2 l0_3).bind fun bt289 => ((impl_UpLinks.f k bt289.1 bt289.2.1 bt289.2.2.1 bt289.2.2.2).bind fun bt300 => ((laws_eqEdgeS.f k bt300.1 bt285.1).bind fun t304 => (if t304 = true then (laws_FnExactUpLinks.j0 k bt285.1 bt285.2 bt300.1 bt300.2 (bt300.2 != bt285.2) a0_0 l0_1 l0_2 l0_3 bt289.1 bt289.2.1 bt289.2.2.1 bt289.2.2.2) else (laws_FnExactUpLinks.j0 k bt285.1 bt285.2 bt300.1 bt300.2 true a0_0 l0_1 l0_2 l0_3 bt289.1 bt289.2.1 bt289.2.2.1 bt289.2.2.2)))))))) = some r := H
 have A2 := Aside0.mk A20
 clear A20
 by_cases c3 : t274 < 0
 ·rw [if_pos c3] at H
  have c3b0 : decide (t274 < 0) = true := decide_eq_true c3
  clear c3
  obtain rfl := Option.some.inj H
  go_enter Try.func3, Try.ntmps3
  go_wp2_with (first | ((with_reducible refine gate_dst (N := 1) rfl ?_); refine box_event ?hg (N := 1) ?hd (cs := #[.int .i64 a0_0, .slice A0_1 l0_1.length c0_1, .slice A0_2 l0_2.length c0_2, .slice A0_3 l0_3.length c0_3]) (t := 26) ?hr ?_; (case hd => rfl); (case hg => rfl); (case hr => first | (go_simp; done) | (go_simp; rfl)); intro gb273 hg w4 hbox hb; have BK273 := Aside0.mk (hbox); have GW273 := gw_ hg HB; have GE273 := gw_ hg HB; replace HB := bst_ HB hb; clear hb hbox hg; have hcz5_0 : w4.cell? ⟨gb273, 0, none⟩ = some (.int .i64 a0_0) := bc_ BK273 0; have hcz5_1 : w4.cell? ⟨gb273, 1, none⟩ = some (.slice A0_1 l0_1.length c0_1) := bc_ BK273 1; have hcz5_2 : w4.cell? ⟨gb273, 2, none⟩ = some (.slice A0_2 l0_2.length c0_2) := bc_ BK273 2; have hcz5_3 : w4.cell? ⟨gb273, 3, none⟩ = some (.slice A0_3 l0_3.length c0_3) := bc_ BK273 3; have hfz5_0 := blk_frozen BK273.out 0; have hfz5_1 := blk_frozen BK273.out 1; have hfz5_2 := blk_frozen BK273.out 2; have hfz5_3 := blk_frozen BK273.out 3) | ((with_reducible refine gate_callee (f := 11) rfl ?_); refine goesL_ (some 16) rfl rfl Try.func11 (by kernel_rfl) rfl #[.agg #[.int .i64 a0_0, .slice A0_1 l0_1.length c0_1, .slice A0_2 l0_2.length c0_2, .slice A0_3 l0_3.length c0_3], .int .i64 1048576] rfl tm_ ?_; (with_reducible refine (laws_szCampus.calls k a0_0 _ _ l0_1 _ _ l0_2 _ _ l0_3 1048576 t274 _ ?side1 ?side2 ?side3 ?side4 ?side5 ?side6 A2.out).mono ?_); (case side1 => exact ca (Kd.C_below HR0_1.out HB.out)); (case side2 => exact HC0_1.out); (case side3 => exact ca (Kd.C_below HR0_2.out HB.out)); (case side4 => exact HC0_2.out); (case side5 => exact ca (Kd.C_below HR0_3.out HB.out)); (case side6 => exact HC0_3.out); rintro e w6 ⟨rfl, hb⟩; refine ⟨_, rfl, ?_⟩; replace BK273 := bb_ BK273 hb; replace HB := bst_ HB hb; clear hb))
  go_ret
  exact ⟨by first | rfl | (simp [errW_none, errW_some] <;> rfl) | (simp [*, errW_none, errW_some] <;> rfl), by repeat (first | (with_reducible first | exact HB.out | apply below_alloc | apply pw_below_drewN | apply below_drew1 | refine below_set ?_ GE273.out) | exact HB.out)⟩
 rw [if_neg c3] at H
 have c3b0 : decide (t274 < 0) = false := decide_eq_false c3
 clear c3
 replace H := Option.bind_eq_some_iff.mp H
 obtain ⟨⟨t275, t276, t279, t282⟩, A70, H⟩ := H
 replace H : ((spec_UpLinks.f k t275 t276 t279 t282).bind fun bt285 => ((laws_toCampus.f k a0_0 l0_1 l0_2 l0_3).bind fun bt289 => ((impl_UpLinks.f k bt289.1 bt289.2.1 bt289.2.2.1 bt289.2.2.2).bind fun bt300 => ((laws_eqEdgeS.f k bt300.1 bt285.1).bind fun t304 => (if t304 = true then (laws_FnExactUpLinks.j0 k bt285.1 bt285.2 bt300.1 bt300.2 (bt300.2 != bt285.2) a0_0 l0_1 l0_2 l0_3 bt289.1 bt289.2.1 bt289.2.2.1 bt289.2.2.2) else (laws_FnExactUpLinks.j0 k bt285.1 bt285.2 bt300.1 bt300.2 true a0_0 l0_1 l0_2 l0_3 bt289.1 bt289.2.1 bt289.2.2.1 bt289.2.2.2)))))) = some r := H
 have A7 := Aside0.mk A70
 clear A70
 replace H := Option.bind_eq_some_iff.mp H
 obtain ⟨⟨t285, t288⟩, A80, H⟩ := H
 replace H : ((laws_toCampus.f k a0_0 l0_1 l0_2 l0_3).bind fun bt289 => ((impl_UpLinks.f k bt289.1 bt289.2.1 bt289.2.2.1 bt289.2.2.2).bind fun bt300 => ((laws_eqEdgeS.f k bt300.1 t285).bind fun t304 => (if t304 = true then (laws_FnExactUpLinks.j0 k t285 t288 bt300.1 bt300.2 (bt300.2 != t288) a0_0 l0_1 l0_2 l0_3 bt289.1 bt289.2.1 bt289.2.2.1 bt289.2.2.2) else (laws_FnExactUpLinks.j0 k t285 t288 bt300.1 bt300.2 true a0_0 l0_1 l0_2 l0_3 bt289.1 bt289.2.1 bt289.2.2.1 bt289.2.2.2))))) = some r := H
 have A8 := Aside0.mk A80
 clear A80
 replace H := Option.bind_eq_some_iff.mp H
 obtain ⟨⟨t289, t290, t293, t296⟩, A90, H⟩ := H
 replace H : ((impl_UpLinks.f k t289 t290 t293 t296).bind fun bt300 => ((laws_eqEdgeS.f k bt300.1 t285).bind fun t304 => (if t304 = true then (laws_FnExactUpLinks.j0 k t285 t288 bt300.1 bt300.2 (bt300.2 != t288) a0_0 l0_1 l0_2 l0_3 t289 t290 t293 t296) else (laws_FnExactUpLinks.j0 k t285 t288 bt300.1 bt300.2 true a0_0 l0_1 l0_2 l0_3 t289 t290 t293 t296)))) = some r := H
 have A9 := Aside0.mk A90
 clear A90
 replace H := Option.bind_eq_some_iff.mp H
 obtain ⟨⟨t300, t303⟩, A100, H⟩ := H
 replace H : ((laws_eqEdgeS.f k t300 t285).bind fun t304 => (if t304 = true then (laws_FnExactUpLinks.j0 k t285 t288 t300 t303 (t303 != t288) a0_0 l0_1 l0_2 l0_3 t289 t290 t293 t296) else (laws_FnExactUpLinks.j0 k t285 t288 t300 t303 true a0_0 l0_1 l0_2 l0_3 t289 t290 t293 t296))) = some r := H
 have A10 := Aside0.mk A100
 clear A100
 have HC11 := Aside0.mk H
 clear H
 go_enter Try.func3, Try.ntmps3
 go_upto_region 8 with (first | ((with_reducible refine gate_dst (N := 1) rfl ?_); refine box_event ?hg (N := 1) ?hd (cs := #[.int .i64 a0_0, .slice A0_1 l0_1.length c0_1, .slice A0_2 l0_2.length c0_2, .slice A0_3 l0_3.length c0_3]) (t := 26) ?hr ?_; (case hd => rfl); (case hg => rfl); (case hr => first | (go_simp; done) | (go_simp; rfl)); intro gb273 hg w12 hbox hb; have BK273 := Aside0.mk (hbox); have GW273 := gw_ hg HB; have GE273 := gw_ hg HB; replace HB := bst_ HB hb; clear hb hbox hg; have hcz13_0 : w12.cell? ⟨gb273, 0, none⟩ = some (.int .i64 a0_0) := bc_ BK273 0; have hcz13_1 : w12.cell? ⟨gb273, 1, none⟩ = some (.slice A0_1 l0_1.length c0_1) := bc_ BK273 1; have hcz13_2 : w12.cell? ⟨gb273, 2, none⟩ = some (.slice A0_2 l0_2.length c0_2) := bc_ BK273 2; have hcz13_3 : w12.cell? ⟨gb273, 3, none⟩ = some (.slice A0_3 l0_3.length c0_3) := bc_ BK273 3; have hfz13_0 := blk_frozen BK273.out 0; have hfz13_1 := blk_frozen BK273.out 1; have hfz13_2 := blk_frozen BK273.out 2; have hfz13_3 := blk_frozen BK273.out 3) | ((with_reducible refine gate_callee (f := 11) rfl ?_); refine goesL_ (some 16) rfl rfl Try.func11 (by kernel_rfl) rfl #[.agg #[.int .i64 a0_0, .slice A0_1 l0_1.length c0_1, .slice A0_2 l0_2.length c0_2, .slice A0_3 l0_3.length c0_3], .int .i64 1048576] rfl tm_ ?_; (with_reducible refine (laws_szCampus.calls k a0_0 _ _ l0_1 _ _ l0_2 _ _ l0_3 1048576 t274 _ ?side1 ?side2 ?side3 ?side4 ?side5 ?side6 A2.out).mono ?_); (case side1 => exact ca (Kd.C_below HR0_1.out HB.out)); (case side2 => exact HC0_1.out); (case side3 => exact ca (Kd.C_below HR0_2.out HB.out)); (case side4 => exact HC0_2.out); (case side5 => exact ca (Kd.C_below HR0_3.out HB.out)); (case side6 => exact HC0_3.out); rintro e w14 ⟨rfl, hb⟩; refine ⟨_, rfl, ?_⟩; replace BK273 := bb_ BK273 hb; replace HB := bst_ HB hb; clear hb; have hcz15_0 : w14.cell? ⟨gb273, 0, none⟩ = some (.int .i64 a0_0) := bc_ BK273 0; have hcz15_1 : w14.cell? ⟨gb273, 1, none⟩ = some (.slice A0_1 l0_1.length c0_1) := bc_ BK273 1; have hcz15_2 : w14.cell? ⟨gb273, 2, none⟩ = some (.slice A0_2 l0_2.length c0_2) := bc_ BK273 2; have hcz15_3 : w14.cell? ⟨gb273, 3, none⟩ = some (.slice A0_3 l0_3.length c0_3) := bc_ BK273 3; have hfz15_0 := blk_frozen BK273.out 0; have hfz15_1 := blk_frozen BK273.out 1; have hfz15_2 := blk_frozen BK273.out 2; have hfz15_3 := blk_frozen BK273.out 3) | ((with_reducible refine gate_callee (f := 13) rfl ?_); refine goesL_ (some 21) rfl rfl Try.func13 (by kernel_rfl) rfl #[.agg #[.int .i64 a0_0, .slice A0_1 l0_1.length c0_1, .slice A0_2 l0_2.length c0_2, .slice A0_3 l0_3.length c0_3]] rfl tm_ ?_; (with_reducible refine (laws_toCampus.calls k a0_0 _ _ l0_1 _ _ l0_2 _ _ l0_3 t275 t276 t279 t282 _ ?side1 ?side2 ?side3 ?side4 ?side5 ?side6 A7.out).mono ?_); (case side1 => exact ca (Kd.C_below HR0_1.out HB.out)); (case side2 => exact HC0_1.out); (case side3 => exact ca (Kd.C_below HR0_2.out HB.out)); (case side4 => exact HC0_2.out); (case side5 => exact ca (Kd.C_below HR0_3.out HB.out)); (case side6 => exact HC0_3.out); rintro e w16 ⟨v277, v280, v283, rfl, ho0, ho1, ho2, hb⟩; refine ⟨_, rfl, ?_⟩; have HO278 := Aside0.mk (Kd.R_lower ho0 (below_size (hB HB))); have HO281 := Aside0.mk (Kd.R_lower ho1 (below_size (hB HB))); have HO284 := Aside0.mk (Kd.S_lower ho2 (below_size (hB HB))); replace BK273 := bb_ BK273 hb; replace HB := bst_ HB hb; clear hb ho0 ho1 ho2; obtain ⟨Ao17, co17, eo17⟩ := Kd.R_slice HO278.out; subst eo17; obtain ⟨Ao18, co18, eo18⟩ := Kd.R_slice HO281.out; subst eo18; obtain ⟨Ao19, co19, eo19⟩ := Kd.S_slice HO284.out; subst eo19) | ((with_reducible refine gate_callee (f := 12) rfl ?_); refine goesL_ (some 22) rfl rfl Try.func12 (by kernel_rfl) rfl #[.agg #[.int .i64 t275, .slice Ao17 t276.length co17, .slice Ao18 t279.length co18, .slice Ao19 t282.length co19]] rfl tm_ ?_; (with_reducible refine (spec_UpLinks.calls k t275 _ _ t276 _ _ t279 _ _ t282 t285 t288 _ ?side1 ?side2 ?side3 ?side4 ?side5 ?side6 A8.out).mono ?_); (case side1 => exact ca (Kd.R_reads' HO278.out).2.2); (case side2 => exact (Kd.R_reads' HO278.out).2.1); (case side3 => exact ca (Kd.R_reads' HO281.out).2.2); (case side4 => exact (Kd.R_reads' HO281.out).2.1); (case side5 => exact ca (Kd.S_reads' HO284.out).2.2); (case side6 => exact (Kd.S_reads' HO284.out).2.1); rintro e w20 ⟨v286, rfl, ho0, hb⟩; refine ⟨_, rfl, ?_⟩; have HO287 := Aside0.mk (Kd.R_lower (Kd.R_new' ho0 (rl_ HO278)) (below_size (hB HB))); replace HO278 := re_ HO278 ho0 hb; replace HO281 := rb_ HO281 hb; replace HO284 := Aside0.mk (Kd.S_below (sa HO284.out) hb); replace BK273 := bb_ BK273 hb; replace HB := bst_ HB hb; clear hb ho0; have hcz21_0 : w20.cell? ⟨gb273, 0, none⟩ = some (.int .i64 a0_0) := bc_ BK273 0; have hcz21_1 : w20.cell? ⟨gb273, 1, none⟩ = some (.slice A0_1 l0_1.length c0_1) := bc_ BK273 1; have hcz21_2 : w20.cell? ⟨gb273, 2, none⟩ = some (.slice A0_2 l0_2.length c0_2) := bc_ BK273 2; have hcz21_3 : w20.cell? ⟨gb273, 3, none⟩ = some (.slice A0_3 l0_3.length c0_3) := bc_ BK273 3; have hfz21_0 := blk_frozen BK273.out 0; have hfz21_1 := blk_frozen BK273.out 1; have hfz21_2 := blk_frozen BK273.out 2; have hfz21_3 := blk_frozen BK273.out 3) | ((with_reducible refine gate_callee (f := 13) rfl ?_); refine goesL_ (some 26) rfl rfl Try.func13 (by kernel_rfl) rfl #[.agg #[.int .i64 a0_0, .slice A0_1 l0_1.length c0_1, .slice A0_2 l0_2.length c0_2, .slice A0_3 l0_3.length c0_3]] rfl tm_ ?_; (with_reducible refine (laws_toCampus.calls k a0_0 _ _ l0_1 _ _ l0_2 _ _ l0_3 t289 t290 t293 t296 _ ?side1 ?side2 ?side3 ?side4 ?side5 ?side6 A9.out).mono ?_); (case side1 => exact ca (Kd.C_below HR0_1.out HB.out)); (case side2 => exact HC0_1.out); (case side3 => exact ca (Kd.C_below HR0_2.out HB.out)); (case side4 => exact HC0_2.out); (case side5 => exact ca (Kd.C_below HR0_3.out HB.out)); (case side6 => exact HC0_3.out); rintro e w22 ⟨v291, v294, v297, rfl, ho0, ho1, ho2, hb⟩; refine ⟨_, rfl, ?_⟩; have HO292 := Aside0.mk (Kd.R_lower (Kd.R_new' (Kd.R_new' ho0 (rl_ HO278)) (rl_ HO287)) (below_size (hB HB))); have HO295 := Aside0.mk (Kd.R_lower (Kd.R_new' ho1 (rl_ HO281)) (below_size (hB HB))); have HO298 := Aside0.mk (Kd.S_lower (Kd.S_new' (Kd.S_new' ho2 (rl_ HO281)) (Kd.S_lt (sa HO284.out))) (below_size (hB HB))); replace HO278 := re_ HO278 ho0 hb; replace HO281 := re_ HO281 ho1 hb; replace HO284 := Aside0.mk (Kd.S_mono (Kd.S_told (Kd.S_told (Kd.S_old (sa HO284.out) hb) (Kd.R_base ho1)) (Kd.S_base ho2)) (fun _ h_ => h_.1)); replace HO287 := re_ HO287 ho0 hb; replace BK273 := bb_ BK273 hb; replace HB := bst_ HB hb; clear hb ho0 ho1 ho2) | ((with_reducible refine gate_dst (N := 6) rfl ?_); refine box_event ?hg (N := 6) ?hd (cs := #[.int .i64 0, .slice none 0 0, .slice none 0 0, .slice none 0 0]) (t := 33) ?hr ?_; (case hd => rfl); (case hg => rfl); (case hr => first | (go_simp; done) | (go_simp; rfl)); intro gb299 hg w23 hbox hb; have BK299 := Aside0.mk (hbox); have GW299 := gw_ hg HB; have GE299 := gw_ hg HB; have NB273_299 := nl_ hg BK273; have NB299_273 := ng_ hg BK273; replace HO278 := rb_ HO278 hb; replace HO281 := rb_ HO281 hb; replace HO284 := Aside0.mk (Kd.S_below (sa HO284.out) hb); replace HO287 := rb_ HO287 hb; replace HO292 := rb_ HO292 hb; replace HO295 := rb_ HO295 hb; replace HO298 := Aside0.mk (Kd.S_below (sa HO298.out) hb); replace BK273 := bb_ BK273 hb; replace HB := bst_ HB hb; clear hb hbox hg; have hnb24 := NB299_273.out; have hnc24 := NB273_299.out; have hcz25_0 : w23.cell? ⟨gb299, 0, none⟩ = some (.int .i64 0) := bc_ BK299 0; have hcz25_1 : w23.cell? ⟨gb299, 1, none⟩ = some (.slice none 0 0) := bc_ BK299 1; have hcz25_2 : w23.cell? ⟨gb299, 2, none⟩ = some (.slice none 0 0) := bc_ BK299 2; have hcz25_3 : w23.cell? ⟨gb299, 3, none⟩ = some (.slice none 0 0) := bc_ BK299 3; have hfz25_0 := blk_frozen BK299.out 0; have hfz25_1 := blk_frozen BK299.out 1; have hfz25_2 := blk_frozen BK299.out 2; have hfz25_3 := blk_frozen BK299.out 3; obtain ⟨Ao26, co26, eo26⟩ := Kd.R_slice HO292.out; subst eo26; obtain ⟨Ao27, co27, eo27⟩ := Kd.R_slice HO295.out; subst eo27; obtain ⟨Ao28, co28, eo28⟩ := Kd.S_slice HO298.out; subst eo28) | ((with_reducible refine gate_callee (f := 14) rfl ?_); refine goesL_ (some 29) rfl rfl Try.func14 (by kernel_rfl) rfl #[.agg #[.int .i64 t289, .slice Ao26 t290.length co26, .slice Ao27 t293.length co27, .slice Ao28 t296.length co28]] rfl tm_ ?_; (with_reducible refine (impl_UpLinks.calls k t289 _ _ t290 _ _ t293 _ _ t296 t300 t303 _ ?side1 ?side2 ?side3 ?side4 ?side5 ?side6 A10.out).mono ?_); (case side1 => exact rr_ (fm4_ HO292 BK299)); (case side2 => exact (Kd.R_reads' HO292.out).2.1); (case side3 => exact rr_ (fm4_ HO295 BK299)); (case side4 => exact (Kd.R_reads' HO295.out).2.1); (case side5 => refine (Kd.S_reads' (e := 130) (base := w.heap.size) (ok := fun k_ => ((no_ (.slice Ao27 t293.length co27) k_ ∧ no_ (.slice Ao18 t279.length co18) k_) ∧ no_ (.slice Ao19 t282.length co19) k_)) (n := t296.length) (c := co28) ?_).2.2; exact (by (with_reducible repeat (first | apply Kd.S_alloc | apply Kd.S_drewN | apply Kd.S_drew)); exact (Kd.S_mono (Kd.S_far (p := ⟨gb299, 3, none⟩) (Kd.S_far (p := ⟨gb299, 2, none⟩) (Kd.S_far (p := ⟨gb299, 1, none⟩) (Kd.S_far (p := ⟨gb299, 0, none⟩) (Kd.S_types HO298.out BK299.out (by decide)) (fun _ hk => hk.2) (.int .i64 t289)) (fun _ hk => hk.2) (.slice Ao26 t290.length co26)) (fun _ hk => hk.2) (.slice Ao27 t293.length co27)) (fun _ hk => hk.2) (.slice Ao28 t296.length co28)) (fun _ h_ => h_.1)))); (case side6 => exact (Kd.S_reads' HO298.out).2.1); rintro e w29 ⟨v301, rfl, ho0, hb⟩; refine ⟨_, rfl, ?_⟩; have HO302 := Aside0.mk (Kd.R_lower (Kd.R_new' (Kd.R_new' (Kd.R_new' ho0 (Kd.R_lt (ra (fm4_ HO278 BK299)))) (Kd.R_lt (ra (fm4_ HO287 BK299)))) (Kd.R_lt (ra (fm4_ HO292 BK299)))) (below_size (hB HB))); replace HO278 := Aside0.mk (Kd.R_elder' (ra (fm4_ HO278 BK299)) (Kd.R_base ho0) hb); replace HO281 := rb4_ HO281 BK299 hb; replace HO284 := Aside0.mk (Kd.S_below (by (with_reducible repeat (first | apply Kd.S_alloc | apply Kd.S_drewN | apply Kd.S_drew)); exact (Kd.S_mono (Kd.S_far (p := ⟨gb299, 3, none⟩) (Kd.S_far (p := ⟨gb299, 2, none⟩) (Kd.S_far (p := ⟨gb299, 1, none⟩) (Kd.S_far (p := ⟨gb299, 0, none⟩) (Kd.S_types HO284.out BK299.out (by decide)) (fun _ hk => hk.2) (.int .i64 t289)) (fun _ hk => hk.2) (.slice Ao26 t290.length co26)) (fun _ hk => hk.2) (.slice Ao27 t293.length co27)) (fun _ hk => hk.2) (.slice Ao28 t296.length co28)) (fun _ h_ => h_.1))) hb); replace HO287 := Aside0.mk (Kd.R_elder' (ra (fm4_ HO287 BK299)) (Kd.R_base ho0) hb); replace HO292 := Aside0.mk (Kd.R_elder' (ra (fm4_ HO292 BK299)) (Kd.R_base ho0) hb); replace HO295 := rb4_ HO295 BK299 hb; replace HO298 := Aside0.mk (Kd.S_below (by (with_reducible repeat (first | apply Kd.S_alloc | apply Kd.S_drewN | apply Kd.S_drew)); exact (Kd.S_mono (Kd.S_far (p := ⟨gb299, 3, none⟩) (Kd.S_far (p := ⟨gb299, 2, none⟩) (Kd.S_far (p := ⟨gb299, 1, none⟩) (Kd.S_far (p := ⟨gb299, 0, none⟩) (Kd.S_types HO298.out BK299.out (by decide)) (fun _ hk => hk.2) (.int .i64 t289)) (fun _ hk => hk.2) (.slice Ao26 t290.length co26)) (fun _ hk => hk.2) (.slice Ao27 t293.length co27)) (fun _ hk => hk.2) (.slice Ao28 t296.length co28)) (fun _ h_ => h_.1))) hb); replace BK273 := Aside0.mk (blk_below (bx BK273) hb); replace BK299 := Aside0.mk (blk_below (g := gb299) (o := .cells #[.int .i64 t289, .slice Ao26 t290.length co26, .slice Ao27 t293.length co27, .slice Ao28 t296.length co28] 33 (0, 0)) (by (with_reducible repeat (first | refine blk_drewN ?_ _ | refine blk_drew ?_ | refine blk_alloc ?_ _)); refine blk_put (cs := #[.int .i64 t289, .slice Ao26 t290.length co26, .slice Ao27 t293.length co27, .slice none 0 0]) ?_ 3 _ rfl; (with_reducible repeat (first | refine blk_drewN ?_ _ | refine blk_drew ?_ | refine blk_alloc ?_ _)); refine blk_put (cs := #[.int .i64 t289, .slice Ao26 t290.length co26, .slice none 0 0, .slice none 0 0]) ?_ 2 _ rfl; (with_reducible repeat (first | refine blk_drewN ?_ _ | refine blk_drew ?_ | refine blk_alloc ?_ _)); refine blk_put (cs := #[.int .i64 t289, .slice none 0 0, .slice none 0 0, .slice none 0 0]) ?_ 1 _ rfl; (with_reducible repeat (first | refine blk_drewN ?_ _ | refine blk_drew ?_ | refine blk_alloc ?_ _)); refine blk_put (cs := #[.int .i64 0, .slice none 0 0, .slice none 0 0, .slice none 0 0]) ?_ 0 _ rfl; (with_reducible repeat (first | refine blk_drewN ?_ _ | refine blk_drew ?_ | refine blk_alloc ?_ _)); exact BK299.out) hb); replace HB := bst_ HB hb; clear hb ho0))
 (try simp only [Act.put, List.setIfInBounds_toArray, List.set_cons_zero, List.set_cons_succ])
 go_cut [40] (fun v40 wc => ∃ (kq : Nat) (x40_10 : Bool), v40 = .bool x40_10 ∧ Aside0 (laws_FnExactUpLinks.j0 kq t285 t288 t300 t303 x40_10 a0_0 l0_1 l0_2 l0_3 t289 t290 t293 t296 = some r) ∧ Aside0 (kq ≤ k) ∧ Aside0 (Kd.R k86 86 wc w.heap.size (fun k_ => no_ v301 k_ ∧ no_ (.slice Ao26 t290.length co26) k_) v286 t285) ∧ Aside0 (Kd.R k86 86 wc w.heap.size (fun k_ => no_ v286 k_ ∧ no_ (.slice Ao26 t290.length co26) k_) v301 t300) ∧ Aside0 (Kd.R k86 86 wc w.heap.size (fun k_ => no_ v286 k_ ∧ no_ v301 k_) (.slice Ao26 t290.length co26) t290) ∧ Aside0 (Kd.R (Kd.int .i64) 3 wc w.heap.size (fun _ => True) (.slice Ao27 t293.length co27) t293) ∧ Aside0 (Kd.S k130 130 wc w.heap.size (fun k_ => no_ (.slice Ao27 t293.length co27) k_) (.slice Ao28 t296.length co28) t296) ∧ Aside0 (wc.heap[gb273]? = some (.cells #[.int .i64 a0_0, (.slice A0_1 l0_1.length c0_1), (.slice A0_2 l0_2.length c0_2), (.slice A0_3 l0_3.length c0_3)] 26 (0, 0))) ∧ Aside0 (wc.heap[gb299]? = some (.cells #[.int .i64 t289, (.slice Ao26 t290.length co26), (.slice Ao27 t293.length co27), (.slice Ao28 t296.length co28)] 33 (0, 0))) ∧ Aside0 (Below w.heap.size w wc))
 case first =>
  have H := HC11.out
  clear HC11
  replace H := Option.bind_eq_some_iff.mp H
  obtain ⟨t304, A300, H⟩ := H
  replace H : (if t304 = true then (laws_FnExactUpLinks.j0 k t285 t288 t300 t303 (t303 != t288) a0_0 l0_1 l0_2 l0_3 t289 t290 t293 t296) else (laws_FnExactUpLinks.j0 k t285 t288 t300 t303 true a0_0 l0_1 l0_2 l0_3 t289 t290 t293 t296)) = some r := H
  have A30 := Aside0.mk A300
  clear A300
  by_cases c31 : t304 = true
  ·subst c31
   rw [if_pos rfl] at H
   have H' := Aside0.mk H
   clear H
   obtain ⟨Ao32, co32, eo32⟩ := Kd.R_slice HO302.out
   subst eo32
   obtain ⟨Ao33, co33, eo33⟩ := Kd.R_slice HO287.out
   subst eo33
   go_wp2_with (first | ((with_reducible refine gate_callee (f := 15) rfl ?_); refine goesL_ (some 34) rfl rfl Try.func15 (by kernel_rfl) rfl #[.slice Ao32 t300.length co32, .slice Ao33 t285.length co33] rfl tm_ ?_; (with_reducible refine (laws_eqEdgeS.calls k _ _ t300 _ _ t285 true _ ?side1 ?side2 ?side3 ?side4 A30.out).mono ?_); (case side1 => exact ca (Kd.R_reads' HO302.out).2.2); (case side2 => exact (Kd.R_reads' HO302.out).2.1); (case side3 => exact ca (Kd.R_reads' HO287.out).2.2); (case side4 => exact (Kd.R_reads' HO287.out).2.1); rintro e w34 ⟨rfl, hb⟩; refine ⟨_, rfl, ?_⟩; replace HO278 := rb_ HO278 hb; replace HO281 := rb_ HO281 hb; replace HO284 := Aside0.mk (Kd.S_below (sa HO284.out) hb); replace HO287 := rb_ HO287 hb; replace HO292 := rb_ HO292 hb; replace HO295 := rb_ HO295 hb; replace HO298 := Aside0.mk (Kd.S_below (sa HO298.out) hb); replace HO302 := rb_ HO302 hb; replace BK273 := bb_ BK273 hb; replace BK299 := bb_ BK299 hb; replace HB := bst_ HB hb; clear hb))
   go_meet
   case rel => exact ⟨_, ((t303 != t288)), (by first | rfl | (simp; done) | (simp [*]; done)), H', ⟨by first | omega | exact Nat.le_refl _⟩, rm_ HO287 (fun _ hk => ⟨hk.2, hk.1.2⟩), rm_ HO302 (fun _ hk => ⟨hk.1.2, hk.2⟩), rm_ HO292 (fun _ hk => ⟨hk.1.2, hk.2⟩), rm_ HO295 (fun _ hk => trivial), ⟨by (with_reducible repeat (first | apply Kd.S_alloc | apply Kd.S_drewN | apply Kd.S_drew)); exact Kd.S_mono HO298.out (fun _ hk => hk.1.1)⟩, ⟨by (with_reducible repeat (first | refine blk_drewN ?_ _ | refine blk_drew ?_ | refine blk_alloc ?_ _)); exact BK273.out⟩, ⟨by (with_reducible repeat (first | refine blk_drewN ?_ _ | refine blk_drew ?_ | refine blk_alloc ?_ _)); exact BK299.out⟩, ⟨hB HB⟩⟩
  replace c31 := Bool.eq_false_iff.mpr c31
  subst c31
  rw [if_neg (show ¬ (false = true) by decide)] at H
  have H' := Aside0.mk H
  clear H
  obtain ⟨Ao35, co35, eo35⟩ := Kd.R_slice HO302.out
  subst eo35
  obtain ⟨Ao36, co36, eo36⟩ := Kd.R_slice HO287.out
  subst eo36
  go_wp2_with (first | ((with_reducible refine gate_callee (f := 15) rfl ?_); refine goesL_ (some 34) rfl rfl Try.func15 (by kernel_rfl) rfl #[.slice Ao35 t300.length co35, .slice Ao36 t285.length co36] rfl tm_ ?_; (with_reducible refine (laws_eqEdgeS.calls k _ _ t300 _ _ t285 false _ ?side1 ?side2 ?side3 ?side4 A30.out).mono ?_); (case side1 => exact ca (Kd.R_reads' HO302.out).2.2); (case side2 => exact (Kd.R_reads' HO302.out).2.1); (case side3 => exact ca (Kd.R_reads' HO287.out).2.2); (case side4 => exact (Kd.R_reads' HO287.out).2.1); rintro e w37 ⟨rfl, hb⟩; refine ⟨_, rfl, ?_⟩; replace HO278 := rb_ HO278 hb; replace HO281 := rb_ HO281 hb; replace HO284 := Aside0.mk (Kd.S_below (sa HO284.out) hb); replace HO287 := rb_ HO287 hb; replace HO292 := rb_ HO292 hb; replace HO295 := rb_ HO295 hb; replace HO298 := Aside0.mk (Kd.S_below (sa HO298.out) hb); replace HO302 := rb_ HO302 hb; replace BK273 := bb_ BK273 hb; replace BK299 := bb_ BK299 hb; replace HB := bst_ HB hb; clear hb))
  go_meet
  case rel => exact ⟨_, (true), (by first | rfl | (simp; done) | (simp [*]; done)), H', ⟨by first | omega | exact Nat.le_refl _⟩, rm_ HO287 (fun _ hk => ⟨hk.2, hk.1.2⟩), rm_ HO302 (fun _ hk => ⟨hk.1.2, hk.2⟩), rm_ HO292 (fun _ hk => ⟨hk.1.2, hk.2⟩), rm_ HO295 (fun _ hk => trivial), ⟨by (with_reducible repeat (first | apply Kd.S_alloc | apply Kd.S_drewN | apply Kd.S_drew)); exact Kd.S_mono HO298.out (fun _ hk => hk.1.1)⟩, ⟨by (with_reducible repeat (first | refine blk_drewN ?_ _ | refine blk_drew ?_ | refine blk_alloc ?_ _)); exact BK273.out⟩, ⟨by (with_reducible repeat (first | refine blk_drewN ?_ _ | refine blk_drew ?_ | refine blk_alloc ?_ _)); exact BK299.out⟩, ⟨hB HB⟩⟩
 case rest =>
  clear HC11
  try clear c3
  try clear c3b0
  try clear hcz13_0
  try clear hcz13_1
  try clear hcz13_2
  try clear hcz13_3
  try clear hcz15_0
  try clear hcz15_1
  try clear hcz15_2
  try clear hcz15_3
  try clear hcz21_0
  try clear hcz21_1
  try clear hcz21_2
  try clear hcz21_3
  try clear hcz25_0
  try clear hcz25_1
  try clear hcz25_2
  try clear hcz25_3
  try clear hfz13_0
  try clear hfz13_1
  try clear hfz13_2
  try clear hfz13_3
  try clear hfz15_0
  try clear hfz15_1
  try clear hfz15_2
  try clear hfz15_3
  try clear hfz21_0
  try clear hfz21_1
  try clear hfz21_2
  try clear hfz21_3
  try clear hfz25_0
  try clear hfz25_1
  try clear hfz25_2
  try clear hfz25_3
  obtain ⟨kq, x40_10, rfl, HA, HJ10, HO_4, HO_7, HO_300001, HO_300002, HO_300003, BK273, BK299, HB⟩ := hcut
  cases kq with
  | zero => exact absurd HA.out (by simp [laws_FnExactUpLinks.j0])
  | succ kj10 =>
   have H := HA.out
   clear HA
   simp only [laws_FnExactUpLinks.j0] at H
   by_cases c38 : x40_10 = true
   ·subst c38
    rw [if_pos rfl] at H
    obtain rfl := Option.some.inj H
    go_wp2
    go_ret
    exact ⟨by first | rfl | (simp [errW_none, errW_some] <;> rfl) | (simp [*, errW_none, errW_some] <;> rfl), by repeat (first | (with_reducible first | exact HB.out | apply below_alloc | apply pw_below_drewN | apply below_drew1 | refine below_set ?_ GE273.out | refine below_set ?_ GE299.out) | exact HB.out)⟩
   replace c38 := Bool.eq_false_iff.mpr c38
   subst c38
   rw [if_neg (show ¬ (false = true) by decide)] at H
   replace H := Option.bind_eq_some_iff.mp H
   obtain ⟨⟨t305, t306, t309, t312⟩, A390, H⟩ := H
   replace H : ((laws_eqCampus.f kj10 t289 t290 t293 t296 t305 t306 t309 t312).bind fun t315 => (if t315 = true then ((laws_markCampus.f kj10 t289 t290 t293 t296 1).bind fun bt316 => (if bt316.1 < 0 then (laws_FnExactUpLinks.j1 kj10 t285 t288 t300 true a0_0 l0_1 l0_2 l0_3) else ((laws_eqEdgeS.f kj10 t300 t285).bind fun t319 => (if t319 = true then (laws_FnExactUpLinks.j1 kj10 t285 t288 t300 (t303 != t288) a0_0 l0_1 l0_2 l0_3) else (laws_FnExactUpLinks.j1 kj10 t285 t288 t300 true a0_0 l0_1 l0_2 l0_3))))) else (some false))) = some r := H
   have A39 := Aside0.mk A390
   clear A390
   replace H := Option.bind_eq_some_iff.mp H
   obtain ⟨t315, A400, H⟩ := H
   replace H : (if t315 = true then ((laws_markCampus.f kj10 t289 t290 t293 t296 1).bind fun bt316 => (if bt316.1 < 0 then (laws_FnExactUpLinks.j1 kj10 t285 t288 t300 true a0_0 l0_1 l0_2 l0_3) else ((laws_eqEdgeS.f kj10 t300 t285).bind fun t319 => (if t319 = true then (laws_FnExactUpLinks.j1 kj10 t285 t288 t300 (t303 != t288) a0_0 l0_1 l0_2 l0_3) else (laws_FnExactUpLinks.j1 kj10 t285 t288 t300 true a0_0 l0_1 l0_2 l0_3))))) else (some false)) = some r := H
   have A40 := Aside0.mk A400
   clear A400
   by_cases c41 : t315 = true
   rotate_left
   ·replace c41 := Bool.eq_false_iff.mpr c41
    subst c41
    rw [if_neg (show ¬ (false = true) by decide)] at H
    obtain rfl := Option.some.inj H
    try go_wp2
    replace HO_4 := rd_ HO_4
    replace HO_7 := rd_ HO_7
    replace HO_300001 := rd_ HO_300001
    replace HO_300002 := rd_ HO_300002
    replace HO_300003 := Aside0.mk (Kd.S_drew HO_300003.out)
    replace BK273 := bd_ BK273
    replace BK299 := bd_ BK299
    replace HB := Aside0.mk (below_drew1 HB.out)
    refine start_ (n := 5) (S := fun w' => w'.cell? ⟨gb299, 0, none⟩ = some (.int .i64 t289) ∧ w'.cell? ⟨gb299, 1, none⟩ = some (.slice Ao26 t290.length co26) ∧ w'.cell? ⟨gb299, 2, none⟩ = some (.slice Ao27 t293.length co27) ∧ w'.cell? ⟨gb299, 3, none⟩ = some (.slice Ao28 t296.length co28) ∧ w'.cell? ⟨gb273, 0, none⟩ = some (.int .i64 a0_0) ∧ w'.cell? ⟨gb273, 1, none⟩ = some (.slice A0_1 l0_1.length c0_1) ∧ w'.cell? ⟨gb273, 2, none⟩ = some (.slice A0_2 l0_2.length c0_2) ∧ w'.cell? ⟨gb273, 3, none⟩ = some (.slice A0_3 l0_3.length c0_3)) (ds := []) (bs 5 0) (by kernel_rfl) rfl rfl ⟨bc_ BK299 0, bc_ BK299 1, bc_ BK299 2, bc_ BK299 3, bc_ BK273 0, bc_ BK273 1, bc_ BK273 2, bc_ BK273 3⟩ (fun hHeld => ?_)
    generalize wc.drew = w95 at HO_4 HO_7 HO_300001 HO_300002 HO_300003 BK273 BK299 HB hHeld ⊢
    refine take_ (i := 0) (N := some 41) (v := ?_) (a' := ?_) (bs 5 1) rfl rfl (by kernel_rfl) (fun _ _ _ h => h) (Or.inl ⟨by rfl, ?_⟩) hHeld ?_ ?_
    rotate_left
    ·rintro w' ⟨s0, s1, s2, s3, s4, s5, s6, s7⟩
     go_simp
     with_reducible rfl
    rotate_left
    ·simp only [Act.put, List.setIfInBounds_toArray, List.set_cons_zero, List.set_cons_succ, i64_w, i32_w]
     rfl
    refine take_ (i := 1) (N := some 42) (v := ?_) (a' := ?_) (bs 5 3) rfl rfl (by kernel_rfl) (fun _ _ _ h => h) (Or.inl ⟨by rfl, ?_⟩) hHeld ?_ ?_
    rotate_left
    ·rintro w' ⟨s0, s1, s2, s3, s4, s5, s6, s7⟩
     go_simp
     with_reducible rfl
    rotate_left
    ·simp only [Act.put, List.setIfInBounds_toArray, List.set_cons_zero, List.set_cons_succ, i64_w, i32_w]
     rfl
    refine one_ (i := 2) (N := some 43) (bs 5 7) rfl rfl (by kernel_rfl) (by decide) (fun K hK => ?_)
    refine goes_ Try.func13 (by kernel_rfl) rfl #[.agg #[.int .i64 a0_0, .slice A0_1 l0_1.length c0_1, .slice A0_2 l0_2.length c0_2, .slice A0_3 l0_3.length c0_3]] (by rfl) rfl rfl tm_ ?_
    with_reducible refine (laws_toCampus.calls kj10 a0_0 _ _ l0_1 _ _ l0_2 _ _ l0_3 t305 t306 t309 t312 _ ?side1 ?side2 ?side3 ?side4 ?side5 ?side6 A39.out).mono ?_
    (case side1 => exact ca (Kd.C_below HR0_1.out HB.out))
    (case side2 => exact HC0_1.out)
    (case side3 => exact ca (Kd.C_below HR0_2.out HB.out))
    (case side4 => exact HC0_2.out)
    (case side5 => exact ca (Kd.C_below HR0_3.out HB.out))
    (case side6 => exact HC0_3.out)
    rintro e w96 ⟨v307, v310, v313, rfl, ho0, ho1, ho2, hb⟩
    refine ⟨_, rfl, ?_⟩
    have HO308 := Aside0.mk (Kd.R_lower (Kd.R_new' (Kd.R_new' (Kd.R_new' ho0 (rl_ HO_4)) (rl_ HO_7)) (rl_ HO_300001)) (below_size (hB HB)))
    have HO311 := Aside0.mk (Kd.R_lower (Kd.R_new' ho1 (rl_ HO_300002)) (below_size (hB HB)))
    have HO314 := Aside0.mk (Kd.S_lower (Kd.S_new' (Kd.S_new' ho2 (rl_ HO_300002)) (Kd.S_lt (sa HO_300003.out))) (below_size (hB HB)))
    replace HO_4 := re_ HO_4 ho0 hb
    replace HO_7 := re_ HO_7 ho0 hb
    replace HO_300001 := re_ HO_300001 ho0 hb
    replace HO_300002 := re_ HO_300002 ho1 hb
    replace HO_300003 := Aside0.mk (Kd.S_mono (Kd.S_told (Kd.S_told (Kd.S_old (sa HO_300003.out) hb) (Kd.R_base ho1)) (Kd.S_base ho2)) (fun _ h_ => h_.1))
    replace BK273 := bb_ BK273 hb
    replace BK299 := bb_ BK299 hb
    replace HB := bst_ HB hb
    clear hb ho0 ho1 ho2
    obtain ⟨Ao97, co97, eo97⟩ := Kd.R_slice HO308.out
    subst eo97
    obtain ⟨Ao98, co98, eo98⟩ := Kd.R_slice HO311.out
    subst eo98
    obtain ⟨Ao99, co99, eo99⟩ := Kd.S_slice HO314.out
    subst eo99
    refine hK.out _ _ ⟨bc_ BK299 0, bc_ BK299 1, bc_ BK299 2, bc_ BK299 3, bc_ BK273 0, bc_ BK273 1, bc_ BK273 2, bc_ BK273 3⟩ (fun hHeld => ?_)
    clear hK K
    refine nm_ 43 ?_
    refine one_ (i := 3) (N := some 44) (bs 5 15) rfl rfl (by kernel_rfl) (by decide) (fun K hK => ?_)
    refine goes_ Try.func16 (by kernel_rfl) rfl #[.agg #[.int .i64 t289, .slice Ao26 t290.length co26, .slice Ao27 t293.length co27, .slice Ao28 t296.length co28], .agg #[.int .i64 t305, .slice Ao97 t306.length co97, .slice Ao98 t309.length co98, .slice Ao99 t312.length co99]] (by rfl) rfl rfl tm_ ?_
    with_reducible refine (laws_eqCampus.calls kj10 t289 _ _ t290 _ _ t293 _ _ t296 t305 _ _ t306 _ _ t309 _ _ t312 false _ ?side1 ?side2 ?side3 ?side4 ?side5 ?side6 ?side7 ?side8 ?side9 ?side10 ?side11 ?side12 A40.out).mono ?_
    (case side1 => exact ca (Kd.R_reads' HO_300001.out).2.2)
    (case side2 => exact (Kd.R_reads' HO_300001.out).2.1)
    (case side3 => exact ca (Kd.R_reads' HO_300002.out).2.2)
    (case side4 => exact (Kd.R_reads' HO_300002.out).2.1)
    (case side5 => exact ca (Kd.S_reads' HO_300003.out).2.2)
    (case side6 => exact (Kd.S_reads' HO_300003.out).2.1)
    (case side7 => exact ca (Kd.R_reads' HO308.out).2.2)
    (case side8 => exact (Kd.R_reads' HO308.out).2.1)
    (case side9 => exact ca (Kd.R_reads' HO311.out).2.2)
    (case side10 => exact (Kd.R_reads' HO311.out).2.1)
    (case side11 => exact ca (Kd.S_reads' HO314.out).2.2)
    (case side12 => exact (Kd.S_reads' HO314.out).2.1)
    rintro e w100 ⟨rfl, hb⟩
    refine ⟨_, rfl, ?_⟩
    replace HO_4 := rb_ HO_4 hb
    replace HO_7 := rb_ HO_7 hb
    replace HO_300001 := rb_ HO_300001 hb
    replace HO_300002 := rb_ HO_300002 hb
    replace HO_300003 := Aside0.mk (Kd.S_below (sa HO_300003.out) hb)
    replace HO308 := rb_ HO308 hb
    replace HO311 := rb_ HO311 hb
    replace HO314 := Aside0.mk (Kd.S_below (sa HO314.out) hb)
    replace BK273 := bb_ BK273 hb
    replace BK299 := bb_ BK299 hb
    replace HB := bst_ HB hb
    clear hb
    refine hK.out _ _ ⟨bc_ BK299 0, bc_ BK299 1, bc_ BK299 2, bc_ BK299 3, bc_ BK273 0, bc_ BK273 1, bc_ BK273 2, bc_ BK273 3⟩ (fun hHeld => ?_)
    clear hK K
    refine nm_ 44 ?_
    refine pure_ (i := 4) (N := some 45) (v := ?_) (a' := ?_) (bs 5 31) rfl rfl (by kernel_rfl) (fun _ _ _ h => h) (Or.inl ⟨by rfl, ?_⟩) ?_ ?_
    rotate_left
    ·intro w'
     go_simp
     with_reducible rfl
    rotate_left
    ·simp only [Act.put, List.setIfInBounds_toArray, List.set_cons_zero, List.set_cons_succ, i64_w, i32_w]
     rfl
    refine done_ (by kernel_rfl) ?_
    try go_wp2
    go_ret
    exact ⟨by first | rfl | (simp [errW_none, errW_some] <;> rfl) | (simp [*, errW_none, errW_some] <;> rfl), by repeat (first | (with_reducible first | exact HB.out | apply below_alloc | apply pw_below_drewN | apply below_drew1 | refine below_set ?_ GE273.out | refine below_set ?_ GE299.out) | exact HB.out)⟩
   subst c41
   rw [if_pos rfl] at H
   replace H := Option.bind_eq_some_iff.mp H
   obtain ⟨⟨t316, t317, t318⟩, A420, H⟩ := H
   replace H : (if t316 < 0 then (laws_FnExactUpLinks.j1 kj10 t285 t288 t300 true a0_0 l0_1 l0_2 l0_3) else ((laws_eqEdgeS.f kj10 t300 t285).bind fun t319 => (if t319 = true then (laws_FnExactUpLinks.j1 kj10 t285 t288 t300 (t303 != t288) a0_0 l0_1 l0_2 l0_3) else (laws_FnExactUpLinks.j1 kj10 t285 t288 t300 true a0_0 l0_1 l0_2 l0_3)))) = some r := H
   have A42 := Aside0.mk A420
   clear A420
   have HC43 := Aside0.mk H
   clear H
   try go_wp2
   replace HO_4 := rd_ HO_4
   replace HO_7 := rd_ HO_7
   replace HO_300001 := rd_ HO_300001
   replace HO_300002 := rd_ HO_300002
   replace HO_300003 := Aside0.mk (Kd.S_drew HO_300003.out)
   replace BK273 := bd_ BK273
   replace BK299 := bd_ BK299
   replace HB := Aside0.mk (below_drew1 HB.out)
   refine start_ (n := 5) (S := fun w' => w'.cell? ⟨gb299, 0, none⟩ = some (.int .i64 t289) ∧ w'.cell? ⟨gb299, 1, none⟩ = some (.slice Ao26 t290.length co26) ∧ w'.cell? ⟨gb299, 2, none⟩ = some (.slice Ao27 t293.length co27) ∧ w'.cell? ⟨gb299, 3, none⟩ = some (.slice Ao28 t296.length co28) ∧ w'.cell? ⟨gb273, 0, none⟩ = some (.int .i64 a0_0) ∧ w'.cell? ⟨gb273, 1, none⟩ = some (.slice A0_1 l0_1.length c0_1) ∧ w'.cell? ⟨gb273, 2, none⟩ = some (.slice A0_2 l0_2.length c0_2) ∧ w'.cell? ⟨gb273, 3, none⟩ = some (.slice A0_3 l0_3.length c0_3)) (ds := []) (bs 5 0) (by kernel_rfl) rfl rfl ⟨bc_ BK299 0, bc_ BK299 1, bc_ BK299 2, bc_ BK299 3, bc_ BK273 0, bc_ BK273 1, bc_ BK273 2, bc_ BK273 3⟩ (fun hHeld => ?_)
   generalize wc.drew = w44 at HO_4 HO_7 HO_300001 HO_300002 HO_300003 BK273 BK299 HB hHeld ⊢
   refine take_ (i := 0) (N := some 41) (v := ?_) (a' := ?_) (bs 5 1) rfl rfl (by kernel_rfl) (fun _ _ _ h => h) (Or.inl ⟨by rfl, ?_⟩) hHeld ?_ ?_
   rotate_left
   ·rintro w' ⟨s0, s1, s2, s3, s4, s5, s6, s7⟩
    go_simp
    with_reducible rfl
   rotate_left
   ·simp only [Act.put, List.setIfInBounds_toArray, List.set_cons_zero, List.set_cons_succ, i64_w, i32_w]
    rfl
   refine take_ (i := 1) (N := some 42) (v := ?_) (a' := ?_) (bs 5 3) rfl rfl (by kernel_rfl) (fun _ _ _ h => h) (Or.inl ⟨by rfl, ?_⟩) hHeld ?_ ?_
   rotate_left
   ·rintro w' ⟨s0, s1, s2, s3, s4, s5, s6, s7⟩
    go_simp
    with_reducible rfl
   rotate_left
   ·simp only [Act.put, List.setIfInBounds_toArray, List.set_cons_zero, List.set_cons_succ, i64_w, i32_w]
    rfl
   refine one_ (i := 2) (N := some 43) (bs 5 7) rfl rfl (by kernel_rfl) (by decide) (fun K hK => ?_)
   refine goes_ Try.func13 (by kernel_rfl) rfl #[.agg #[.int .i64 a0_0, .slice A0_1 l0_1.length c0_1, .slice A0_2 l0_2.length c0_2, .slice A0_3 l0_3.length c0_3]] (by rfl) rfl rfl tm_ ?_
   with_reducible refine (laws_toCampus.calls kj10 a0_0 _ _ l0_1 _ _ l0_2 _ _ l0_3 t305 t306 t309 t312 _ ?side1 ?side2 ?side3 ?side4 ?side5 ?side6 A39.out).mono ?_
   (case side1 => exact ca (Kd.C_below HR0_1.out HB.out))
   (case side2 => exact HC0_1.out)
   (case side3 => exact ca (Kd.C_below HR0_2.out HB.out))
   (case side4 => exact HC0_2.out)
   (case side5 => exact ca (Kd.C_below HR0_3.out HB.out))
   (case side6 => exact HC0_3.out)
   rintro e w45 ⟨v307, v310, v313, rfl, ho0, ho1, ho2, hb⟩
   refine ⟨_, rfl, ?_⟩
   have HO308 := Aside0.mk (Kd.R_lower (Kd.R_new' (Kd.R_new' (Kd.R_new' ho0 (rl_ HO_4)) (rl_ HO_7)) (rl_ HO_300001)) (below_size (hB HB)))
   have HO311 := Aside0.mk (Kd.R_lower (Kd.R_new' ho1 (rl_ HO_300002)) (below_size (hB HB)))
   have HO314 := Aside0.mk (Kd.S_lower (Kd.S_new' (Kd.S_new' ho2 (rl_ HO_300002)) (Kd.S_lt (sa HO_300003.out))) (below_size (hB HB)))
   replace HO_4 := re_ HO_4 ho0 hb
   replace HO_7 := re_ HO_7 ho0 hb
   replace HO_300001 := re_ HO_300001 ho0 hb
   replace HO_300002 := re_ HO_300002 ho1 hb
   replace HO_300003 := Aside0.mk (Kd.S_mono (Kd.S_told (Kd.S_told (Kd.S_old (sa HO_300003.out) hb) (Kd.R_base ho1)) (Kd.S_base ho2)) (fun _ h_ => h_.1))
   replace BK273 := bb_ BK273 hb
   replace BK299 := bb_ BK299 hb
   replace HB := bst_ HB hb
   clear hb ho0 ho1 ho2
   obtain ⟨Ao46, co46, eo46⟩ := Kd.R_slice HO308.out
   subst eo46
   obtain ⟨Ao47, co47, eo47⟩ := Kd.R_slice HO311.out
   subst eo47
   obtain ⟨Ao48, co48, eo48⟩ := Kd.S_slice HO314.out
   subst eo48
   refine hK.out _ _ ⟨bc_ BK299 0, bc_ BK299 1, bc_ BK299 2, bc_ BK299 3, bc_ BK273 0, bc_ BK273 1, bc_ BK273 2, bc_ BK273 3⟩ (fun hHeld => ?_)
   clear hK K
   refine nm_ 43 ?_
   refine one_ (i := 3) (N := some 44) (bs 5 15) rfl rfl (by kernel_rfl) (by decide) (fun K hK => ?_)
   refine goes_ Try.func16 (by kernel_rfl) rfl #[.agg #[.int .i64 t289, .slice Ao26 t290.length co26, .slice Ao27 t293.length co27, .slice Ao28 t296.length co28], .agg #[.int .i64 t305, .slice Ao46 t306.length co46, .slice Ao47 t309.length co47, .slice Ao48 t312.length co48]] (by rfl) rfl rfl tm_ ?_
   with_reducible refine (laws_eqCampus.calls kj10 t289 _ _ t290 _ _ t293 _ _ t296 t305 _ _ t306 _ _ t309 _ _ t312 true _ ?side1 ?side2 ?side3 ?side4 ?side5 ?side6 ?side7 ?side8 ?side9 ?side10 ?side11 ?side12 A40.out).mono ?_
   (case side1 => exact ca (Kd.R_reads' HO_300001.out).2.2)
   (case side2 => exact (Kd.R_reads' HO_300001.out).2.1)
   (case side3 => exact ca (Kd.R_reads' HO_300002.out).2.2)
   (case side4 => exact (Kd.R_reads' HO_300002.out).2.1)
   (case side5 => exact ca (Kd.S_reads' HO_300003.out).2.2)
   (case side6 => exact (Kd.S_reads' HO_300003.out).2.1)
   (case side7 => exact ca (Kd.R_reads' HO308.out).2.2)
   (case side8 => exact (Kd.R_reads' HO308.out).2.1)
   (case side9 => exact ca (Kd.R_reads' HO311.out).2.2)
   (case side10 => exact (Kd.R_reads' HO311.out).2.1)
   (case side11 => exact ca (Kd.S_reads' HO314.out).2.2)
   (case side12 => exact (Kd.S_reads' HO314.out).2.1)
   rintro e w49 ⟨rfl, hb⟩
   refine ⟨_, rfl, ?_⟩
   replace HO_4 := rb_ HO_4 hb
   replace HO_7 := rb_ HO_7 hb
   replace HO_300001 := rb_ HO_300001 hb
   replace HO_300002 := rb_ HO_300002 hb
   replace HO_300003 := Aside0.mk (Kd.S_below (sa HO_300003.out) hb)
   replace HO308 := rb_ HO308 hb
   replace HO311 := rb_ HO311 hb
   replace HO314 := Aside0.mk (Kd.S_below (sa HO314.out) hb)
   replace BK273 := bb_ BK273 hb
   replace BK299 := bb_ BK299 hb
   replace HB := bst_ HB hb
   clear hb
   refine hK.out _ _ ⟨bc_ BK299 0, bc_ BK299 1, bc_ BK299 2, bc_ BK299 3, bc_ BK273 0, bc_ BK273 1, bc_ BK273 2, bc_ BK273 3⟩ (fun hHeld => ?_)
   clear hK K
   refine nm_ 44 ?_
   refine pure_ (i := 4) (N := some 45) (v := ?_) (a' := ?_) (bs 5 31) rfl rfl (by kernel_rfl) (fun _ _ _ h => h) (Or.inl ⟨by rfl, ?_⟩) ?_ ?_
   rotate_left
   ·intro w'
    go_simp
    with_reducible rfl
   rotate_left
   ·simp only [Act.put, List.setIfInBounds_toArray, List.set_cons_zero, List.set_cons_succ, i64_w, i32_w]
    rfl
   refine done_ (by kernel_rfl) ?_
   have hnb50 := NB299_273.out
   have hnc50 := NB273_299.out
   have hcz51_0 : w49.cell? ⟨gb299, 0, none⟩ = some (.int .i64 t289) := bc_ BK299 0
   have hcz51_1 : w49.cell? ⟨gb299, 1, none⟩ = some (.slice Ao26 t290.length co26) := bc_ BK299 1
   have hcz51_2 : w49.cell? ⟨gb299, 2, none⟩ = some (.slice Ao27 t293.length co27) := bc_ BK299 2
   have hcz51_3 : w49.cell? ⟨gb299, 3, none⟩ = some (.slice Ao28 t296.length co28) := bc_ BK299 3
   have hfz51_0 := blk_frozen BK299.out 0
   have hfz51_1 := blk_frozen BK299.out 1
   have hfz51_2 := blk_frozen BK299.out 2
   have hfz51_3 := blk_frozen BK299.out 3
   go_upto_region 14 with (first | ((with_reducible refine gate_callee (f := 17) rfl ?_); refine goesL_ (some 48) rfl rfl Try.func17 (by kernel_rfl) rfl #[.agg #[.int .i64 t289, .slice Ao26 t290.length co26, .slice Ao27 t293.length co27, .slice Ao28 t296.length co28], .int .i64 1] rfl tm_ ?_; (with_reducible refine (laws_markCampus.calls kj10 t289 (fun k_ => some k_ = (.slice Ao26 t290.length co26 : Value).ownBlock) (.slice Ao26 t290.length co26) t290 (fun k_ => some k_ = (.slice Ao27 t293.length co27 : Value).ownBlock) (.slice Ao27 t293.length co27) t293 ?P3_ _ _ t296 1 t316 t317 t318 w _ ?side1 ?side2 ?side3 ?side4 ?side5 ?side6 A42.out).mono ?_); (case side1 => repeat (first | (with_reducible first | exact HB.out | apply below_alloc | apply pw_below_drewN | apply below_drew1 | refine below_set ?_ GE273.out | refine below_set ?_ GE299.out) | exact HB.out)); (case side2 => exact Kd.R_tight rfl HO_300001.out); (case side3 => exact Kd.R_tight rfl HO_300002.out); (case side4 => exact Kd.S_bound (Kd.S_apart' HO_300003.out (Kd.R_typed HO_300001.out) (by decide))); (case side5 => exact (fun k_ hk_ hs_ => have hk_ := hk_.1; Or.elim hs_ (fun e_ => (hk_.2) e_) (fun e_ => (hk_.1.1.1) e_))); (case side6 => exact (fun k_ hk_ => hk_.2.2.1)); rintro e w52 ⟨rfl, hy0, hy1, ⟨t296b, hy3_⟩, hb, hkp⟩; refine ⟨_, rfl, ?_⟩; replace HO_4 := Aside0.mk (Kd.R_mono (ok' := fun k_ => no_ v301 k_ ∧ no_ (.slice Ao26 t290.length co26) k_ ∧ no_ (.slice Ao46 t306.length co46) k_) (Kd.R_keptB (Kd.R_bound ((Kd.R_apart' HO_4.out (Kd.R_typed HO_300002.out) (by decide)))) hkp (fun k_ hk_ h_ => Or.elim h_ (fun hs_ => have hk_ := hk_.1; Or.elim hs_ (fun e_ => (hk_.1.1.2) e_) (fun e_ => (hk_.2) e_)) (fun h3_ => laws_FnExactUpLinks.ts_ hk_.2 h3_ (by decide)))) (fun k_ hk_ => have hk_ : _ ∧ True := ⟨hk_.1.1, trivial⟩; ⟨hk_.1.1.1.1, hk_.1.1.1.2, hk_.1.1.2⟩)); replace HO_7 := Aside0.mk (Kd.R_mono (ok' := fun k_ => no_ v286 k_ ∧ no_ (.slice Ao26 t290.length co26) k_ ∧ no_ (.slice Ao46 t306.length co46) k_) (Kd.R_keptB (Kd.R_bound ((Kd.R_apart' HO_7.out (Kd.R_typed HO_300002.out) (by decide)))) hkp (fun k_ hk_ h_ => Or.elim h_ (fun hs_ => have hk_ := hk_.1; Or.elim hs_ (fun e_ => (hk_.1.1.2) e_) (fun e_ => (hk_.2) e_)) (fun h3_ => laws_FnExactUpLinks.ts_ hk_.2 h3_ (by decide)))) (fun k_ hk_ => have hk_ : _ ∧ True := ⟨hk_.1.1, trivial⟩; ⟨hk_.1.1.1.1, hk_.1.1.1.2, hk_.1.1.2⟩)); replace HO_300003 := Aside0.mk (Kd.S_mono (ok' := fun k_ => no_ (.slice Ao27 t293.length co27) k_ ∧ no_ (.slice Ao47 t309.length co47) k_ ∧ no_ (.slice Ao48 t312.length co48) k_) hy3_ (fun k_ hk_ => have hk_ := hk_; ⟨hk_.1.1.1.1, hk_.1.1.1.2, hk_.1.1.2⟩)); replace BK273 := Aside0.mk (blk_kept (ba BK273.out) hkp (fun h_ => Or.elim h_ (fun hs_ => Or.elim hs_ (kne_ HO_300001 BK273) (kne_ HO_300002 BK273)) (fun h3_ => laws_FnExactUpLinks.tb_ BK273.out h3_ (by decide)))); replace BK299 := Aside0.mk (blk_kept (ba BK299.out) hkp (fun h_ => Or.elim h_ (fun hs_ => Or.elim hs_ (kne_ HO_300001 BK299) (kne_ HO_300002 BK299)) (fun h3_ => laws_FnExactUpLinks.tb_ BK299.out h3_ (by decide)))); replace HO_300002 := Aside0.mk (Kd.R_reok rfl hy1 (fun k_ e_ => HO_300002.out.1 k_ e_)); replace HO_300001 := Aside0.mk (Kd.R_reok rfl hy0 (fun k_ e_ => HO_300001.out.1 k_ e_)); replace HB := Aside0.mk (hb); clear hb))
   (try simp only [Act.put, List.setIfInBounds_toArray, List.set_cons_zero, List.set_cons_succ])
   go_cut [61] (fun v61 wc => ∃ (kq : Nat) (x61_42 : Bool), v61 = .bool x61_42 ∧ Aside0 (laws_FnExactUpLinks.j1 kq t285 t288 t300 x61_42 a0_0 l0_1 l0_2 l0_3 = some r) ∧ Aside0 (kq ≤ kj10) ∧ Aside0 (Kd.R k86 86 wc w.heap.size (fun k_ => no_ v301 k_ ∧ no_ (.slice Ao26 t290.length co26) k_) v286 t285) ∧ Aside0 (Kd.R k86 86 wc w.heap.size (fun k_ => no_ v286 k_ ∧ no_ (.slice Ao26 t290.length co26) k_) v301 t300) ∧ Aside0 (Kd.R k86 86 wc w.heap.size (fun k_ => no_ v286 k_ ∧ no_ v301 k_) (.slice Ao26 t290.length co26) t317) ∧ Aside0 (Kd.R (Kd.int .i64) 3 wc w.heap.size (fun _ => True) (.slice Ao27 t293.length co27) t318) ∧ Aside0 (Kd.S k130 130 wc w.heap.size (fun k_ => no_ (.slice Ao27 t293.length co27) k_) (.slice Ao28 t296.length co28) t296b) ∧ Aside0 (wc.heap[gb273]? = some (.cells #[.int .i64 a0_0, (.slice A0_1 l0_1.length c0_1), (.slice A0_2 l0_2.length c0_2), (.slice A0_3 l0_3.length c0_3)] 26 (0, 0))) ∧ Aside0 (wc.heap[gb299]? = some (.cells #[.int .i64 t289, (.slice Ao26 t290.length co26), (.slice Ao27 t293.length co27), (.slice Ao28 t296.length co28)] 33 (0, 0))) ∧ Aside0 (Below w.heap.size w wc))
   case first =>
    have H := HC43.out
    clear HC43
    by_cases c53 : t316 < 0
    ·rw [if_pos c53] at H
     have c53b0 : decide (t316 < 0) = true := decide_eq_true c53
     clear c53
     (first | rw [c53b0] | (simp only [i64_w, i32_w]; rw [c53b0]) | skip)
     have H' := Aside0.mk H
     clear H
     go_wp2
     go_meet
     case rel => exact ⟨_, (true), (by first | rfl | (simp; done) | (simp [*]; done)), H', ⟨by have := HJ10.out; first | omega | exact Nat.le_refl _⟩, rm_ HO_4 (fun _ hk => ⟨hk.1, hk.2.1⟩), rm_ HO_7 (fun _ hk => ⟨hk.1, hk.2.1⟩), rm_ HO_300001 (fun _ hk => hk.1), rm_ HO_300002 (fun _ hk => trivial), ⟨by (with_reducible repeat (first | apply Kd.S_alloc | apply Kd.S_drewN | apply Kd.S_drew)); exact Kd.S_mono HO_300003.out (fun _ hk => hk.1)⟩, ⟨by (with_reducible repeat (first | refine blk_drewN ?_ _ | refine blk_drew ?_ | refine blk_alloc ?_ _)); exact BK273.out⟩, ⟨by (with_reducible repeat (first | refine blk_drewN ?_ _ | refine blk_drew ?_ | refine blk_alloc ?_ _)); exact BK299.out⟩, ⟨hB HB⟩⟩
    rw [if_neg c53] at H
    have c53b0 : decide (t316 < 0) = false := decide_eq_false c53
    clear c53
    (first | rw [c53b0] | (simp only [i64_w, i32_w]; rw [c53b0]) | skip)
    replace H := Option.bind_eq_some_iff.mp H
    obtain ⟨t319, A540, H⟩ := H
    replace H : (if t319 = true then (laws_FnExactUpLinks.j1 kj10 t285 t288 t300 (t303 != t288) a0_0 l0_1 l0_2 l0_3) else (laws_FnExactUpLinks.j1 kj10 t285 t288 t300 true a0_0 l0_1 l0_2 l0_3)) = some r := H
    have A54 := Aside0.mk A540
    clear A540
    by_cases c55 : t319 = true
    ·subst c55
     rw [if_pos rfl] at H
     have H' := Aside0.mk H
     clear H
     obtain ⟨Ao56, co56, eo56⟩ := Kd.R_slice HO_7.out
     subst eo56
     obtain ⟨Ao57, co57, eo57⟩ := Kd.R_slice HO_4.out
     subst eo57
     go_wp2_with (first | (go_at_call 15; (with_reducible refine (laws_eqEdgeS.calls kj10 _ _ t300 _ _ t285 true _ ?side1 ?side2 ?side3 ?side4 A54.out).mono ?_); (case side1 => exact ca (Kd.R_reads' HO_7.out).2.2); (case side2 => exact (Kd.R_reads' HO_7.out).2.1); (case side3 => exact ca (Kd.R_reads' HO_4.out).2.2); (case side4 => exact (Kd.R_reads' HO_4.out).2.1); rintro e w58 ⟨rfl, hb⟩; replace HO_4 := rb_ HO_4 hb; replace HO_7 := rb_ HO_7 hb; replace HO_300001 := rb_ HO_300001 hb; replace HO_300002 := rb_ HO_300002 hb; replace HO_300003 := Aside0.mk (Kd.S_below (sa HO_300003.out) hb); replace BK273 := bb_ BK273 hb; replace BK299 := bb_ BK299 hb; replace HB := bst_ HB hb; clear hb))
     go_meet
     case rel => exact ⟨_, ((t303 != t288)), (by first | rfl | (simp; done) | (simp [*]; done)), H', ⟨by have := HJ10.out; first | omega | exact Nat.le_refl _⟩, rm_ HO_4 (fun _ hk => ⟨hk.1, hk.2.1⟩), rm_ HO_7 (fun _ hk => ⟨hk.1, hk.2.1⟩), rm_ HO_300001 (fun _ hk => hk.1), rm_ HO_300002 (fun _ hk => trivial), ⟨by (with_reducible repeat (first | apply Kd.S_alloc | apply Kd.S_drewN | apply Kd.S_drew)); exact Kd.S_mono HO_300003.out (fun _ hk => hk.1)⟩, ⟨by (with_reducible repeat (first | refine blk_drewN ?_ _ | refine blk_drew ?_ | refine blk_alloc ?_ _)); exact BK273.out⟩, ⟨by (with_reducible repeat (first | refine blk_drewN ?_ _ | refine blk_drew ?_ | refine blk_alloc ?_ _)); exact BK299.out⟩, ⟨hB HB⟩⟩
    replace c55 := Bool.eq_false_iff.mpr c55
    subst c55
    rw [if_neg (show ¬ (false = true) by decide)] at H
    have H' := Aside0.mk H
    clear H
    obtain ⟨Ao59, co59, eo59⟩ := Kd.R_slice HO_7.out
    subst eo59
    obtain ⟨Ao60, co60, eo60⟩ := Kd.R_slice HO_4.out
    subst eo60
    go_wp2_with (first | (go_at_call 15; (with_reducible refine (laws_eqEdgeS.calls kj10 _ _ t300 _ _ t285 false _ ?side1 ?side2 ?side3 ?side4 A54.out).mono ?_); (case side1 => exact ca (Kd.R_reads' HO_7.out).2.2); (case side2 => exact (Kd.R_reads' HO_7.out).2.1); (case side3 => exact ca (Kd.R_reads' HO_4.out).2.2); (case side4 => exact (Kd.R_reads' HO_4.out).2.1); rintro e w61 ⟨rfl, hb⟩; replace HO_4 := rb_ HO_4 hb; replace HO_7 := rb_ HO_7 hb; replace HO_300001 := rb_ HO_300001 hb; replace HO_300002 := rb_ HO_300002 hb; replace HO_300003 := Aside0.mk (Kd.S_below (sa HO_300003.out) hb); replace BK273 := bb_ BK273 hb; replace BK299 := bb_ BK299 hb; replace HB := bst_ HB hb; clear hb))
    go_meet
    case rel => exact ⟨_, (true), (by first | rfl | (simp; done) | (simp [*]; done)), H', ⟨by have := HJ10.out; first | omega | exact Nat.le_refl _⟩, rm_ HO_4 (fun _ hk => ⟨hk.1, hk.2.1⟩), rm_ HO_7 (fun _ hk => ⟨hk.1, hk.2.1⟩), rm_ HO_300001 (fun _ hk => hk.1), rm_ HO_300002 (fun _ hk => trivial), ⟨by (with_reducible repeat (first | apply Kd.S_alloc | apply Kd.S_drewN | apply Kd.S_drew)); exact Kd.S_mono HO_300003.out (fun _ hk => hk.1)⟩, ⟨by (with_reducible repeat (first | refine blk_drewN ?_ _ | refine blk_drew ?_ | refine blk_alloc ?_ _)); exact BK273.out⟩, ⟨by (with_reducible repeat (first | refine blk_drewN ?_ _ | refine blk_drew ?_ | refine blk_alloc ?_ _)); exact BK299.out⟩, ⟨hB HB⟩⟩
   case rest =>
    clear HC43
    try clear c3
    try clear c3b0
    try clear c38
    try clear c41
    try clear hcz13_0
    try clear hcz13_1
    try clear hcz13_2
    try clear hcz13_3
    try clear hcz15_0
    try clear hcz15_1
    try clear hcz15_2
    try clear hcz15_3
    try clear hcz21_0
    try clear hcz21_1
    try clear hcz21_2
    try clear hcz21_3
    try clear hcz25_0
    try clear hcz25_1
    try clear hcz25_2
    try clear hcz25_3
    try clear hcz51_0
    try clear hcz51_1
    try clear hcz51_2
    try clear hcz51_3
    try clear hfz13_0
    try clear hfz13_1
    try clear hfz13_2
    try clear hfz13_3
    try clear hfz15_0
    try clear hfz15_1
    try clear hfz15_2
    try clear hfz15_3
    try clear hfz21_0
    try clear hfz21_1
    try clear hfz21_2
    try clear hfz21_3
    try clear hfz25_0
    try clear hfz25_1
    try clear hfz25_2
    try clear hfz25_3
    try clear hfz51_0
    try clear hfz51_1
    try clear hfz51_2
    try clear hfz51_3
    obtain ⟨kq, x61_42, rfl, HA, HJ42, HO_4, HO_7, HO_300001, HO_300002, HO_300003, BK273, BK299, HB⟩ := hcut
    have hl300001_42 := (Kd.R_reads' HO_300001.out).1
    rw [hl300001_42] at HO_300001
    (try simp only [hl300001_42])
    (try simp only [hl300001_42] at BK273)
    (try simp only [hl300001_42] at BK299)
    (try simp only [hl300001_42] at HO_4)
    (try simp only [hl300001_42] at HO_7)
    (try simp only [hl300001_42] at HO_300002)
    (try simp only [hl300001_42] at HO_300003)
    have hl300002_42 := (Kd.R_reads' HO_300002.out).1
    rw [hl300002_42] at HO_300002
    (try simp only [hl300002_42])
    (try simp only [hl300002_42] at BK273)
    (try simp only [hl300002_42] at BK299)
    (try simp only [hl300002_42] at HO_4)
    (try simp only [hl300002_42] at HO_7)
    (try simp only [hl300002_42] at HO_300001)
    (try simp only [hl300002_42] at HO_300003)
    cases kq with
    | zero => exact absurd HA.out (by simp [laws_FnExactUpLinks.j1])
    | succ kj42 =>
     have H := HA.out
     clear HA
     simp only [laws_FnExactUpLinks.j1] at H
     by_cases c62 : x61_42 = true
     ·subst c62
      rw [if_pos rfl] at H
      obtain rfl := Option.some.inj H
      go_wp2
      go_ret
      exact ⟨by first | rfl | (simp [errW_none, errW_some] <;> rfl) | (simp [*, errW_none, errW_some] <;> rfl), by repeat (first | (with_reducible first | exact HB.out | apply below_alloc | apply pw_below_drewN | apply below_drew1 | refine below_set ?_ GE273.out | refine below_set ?_ GE299.out) | exact HB.out)⟩
     replace c62 := Bool.eq_false_iff.mpr c62
     subst c62
     rw [if_neg (show ¬ (false = true) by decide)] at H
     replace H := Option.bind_eq_some_iff.mp H
     obtain ⟨⟨t320, t321⟩, A630, H⟩ := H
     replace H : ((laws_heldEdgeS.f kj42 t321 1).bind fun t322 => (if t322 < 0 then (some false) else (if t322 = t320 then ((laws_toCampus.f kj42 a0_0 l0_1 l0_2 l0_3).bind fun bt323 => ((impl_UpLinks.f kj42 bt323.1 bt323.2.1 bt323.2.2.1 bt323.2.2.2).bind fun bt333 => ((laws_eqEdgeS.f kj42 bt333.1 t285).bind fun t337 => (if t337 = true then (laws_FnExactUpLinks.j2 kj42 t321 t320 (bt333.2 != t288)) else (laws_FnExactUpLinks.j2 kj42 t321 t320 true))))) else (some false)))) = some r := H
     have A63 := Aside0.mk A630
     clear A630
     replace H := Option.bind_eq_some_iff.mp H
     obtain ⟨t322, A640, H⟩ := H
     replace H : (if t322 < 0 then (some false) else (if t322 = t320 then ((laws_toCampus.f kj42 a0_0 l0_1 l0_2 l0_3).bind fun bt323 => ((impl_UpLinks.f kj42 bt323.1 bt323.2.1 bt323.2.2.1 bt323.2.2.2).bind fun bt333 => ((laws_eqEdgeS.f kj42 bt333.1 t285).bind fun t337 => (if t337 = true then (laws_FnExactUpLinks.j2 kj42 t321 t320 (bt333.2 != t288)) else (laws_FnExactUpLinks.j2 kj42 t321 t320 true))))) else (some false))) = some r := H
     have A64 := Aside0.mk A640
     clear A640
     by_cases c65 : t322 < 0
     ·rw [if_pos c65] at H
      have c65b0 : decide (t322 < 0) = true := decide_eq_true c65
      clear c65
      obtain rfl := Option.some.inj H
      obtain ⟨Ao66, co66, eo66⟩ := Kd.R_slice HO_7.out
      subst eo66
      go_wp2_with (first | ((with_reducible refine gate_callee (f := 18) rfl ?_); refine goesL_ (some 64) rfl rfl Try.func18 (by kernel_rfl) rfl #[.slice Ao66 t300.length co66, .int .i64 1] rfl tm_ ?_; (with_reducible refine (laws_markEdgeS.calls kj42 (fun k_ => some k_ = (.slice Ao66 t300.length co66 : Value).ownBlock) (.slice Ao66 t300.length co66) t300 1 t320 t321 w _ ?side1 ?side2 A63.out).mono ?_); (case side1 => repeat (first | (with_reducible first | exact HB.out | apply below_alloc | apply pw_below_drewN | apply below_drew1 | refine below_set ?_ GE273.out | refine below_set ?_ GE299.out) | exact HB.out)); (case side2 => exact Kd.R_tight rfl HO_7.out); rintro e w67 ⟨rfl, hy0, hb, hkp⟩; refine ⟨_, rfl, ?_⟩; replace HO_4 := Aside0.mk (Kd.R_mono (ok' := fun k_ => no_ (.slice Ao66 t300.length co66) k_ ∧ no_ (.slice Ao26 t317.length co26) k_) (Kd.R_keptB (HO_4.out) hkp (fun k_ hk_ hs_ => (hk_.1) hs_)) (fun k_ hk_ => ⟨hk_.1.1, hk_.1.2⟩)); replace HO_300001 := Aside0.mk (Kd.R_mono (ok' := fun k_ => no_ v286 k_ ∧ no_ (.slice Ao66 t300.length co66) k_) (Kd.R_keptB (HO_300001.out) hkp (fun k_ hk_ hs_ => (hk_.2) hs_)) (fun k_ hk_ => ⟨hk_.1.1, hk_.1.2⟩)); replace HO_300002 := Aside0.mk (Kd.R_mono (ok' := fun k_ => True) (Kd.R_keptB ((Kd.R_apart' HO_300002.out (Kd.R_typed HO_7.out) (by decide))) hkp (fun k_ hk_ hs_ => (hk_.2) hs_)) (fun k_ hk_ => trivial)); replace HO_300003 := Aside0.mk (Kd.S_mono (ok' := fun k_ => no_ (.slice Ao27 t318.length co27) k_) (Kd.S_keptB ((Kd.S_apart' HO_300003.out (Kd.R_typed HO_7.out) (by decide))) hkp (fun k_ hk_ hs_ => (hk_.2) hs_)) (fun k_ hk_ => hk_.1.1)); replace BK273 := Aside0.mk (blk_kept (ba BK273.out) hkp (fun hs_ => (fun e_ => (Kd.R_ne HO_7.out BK273.out (by decide)) e_) hs_)); replace BK299 := Aside0.mk (blk_kept (ba BK299.out) hkp (fun hs_ => (fun e_ => (Kd.R_ne HO_7.out BK299.out (by decide)) e_) hs_)); replace HO_7 := Aside0.mk (Kd.R_reok rfl hy0 (fun k_ e_ => HO_7.out.1 k_ e_)); replace HB := Aside0.mk (hb); clear hb) | ((with_reducible refine gate_callee (f := 19) rfl ?_); refine goesL_ (some 67) rfl rfl Try.func19 (by kernel_rfl) rfl #[.slice Ao66 t321.length co66, .int .i64 1] rfl (by (try simp only [List.map_toArray, List.map_cons, List.map_nil]); first | done | (rw [show t321.length = t300.length from (Kd.R_reads' HO_7.out).1.symm] <;> rfl) | rfl | (simp only [List.length_drop, List.length_take]; rfl)) ?_; (with_reducible refine (laws_heldEdgeS.calls kj42 _ _ t321 1 t322 _ ?side1 ?side2 A64.out).mono ?_); (case side1 => exact ca (Kd.R_reads' HO_7.out).2.2); (case side2 => rw [show t321.length = t300.length from (Kd.R_reads' HO_7.out).1.symm]; exact (Kd.R_reads' HO_7.out).2.1); rintro e w' ⟨rfl, ⟨nd, rfl⟩⟩; refine ⟨_, rfl, ?_⟩))
      go_ret
      exact ⟨by first | rfl | (simp [errW_none, errW_some] <;> rfl) | (simp [*, errW_none, errW_some] <;> rfl), by repeat (first | (with_reducible first | exact HB.out | apply below_alloc | apply pw_below_drewN | apply below_drew1 | refine below_set ?_ GE273.out | refine below_set ?_ GE299.out) | exact HB.out)⟩
     rw [if_neg c65] at H
     have c65b0 : decide (t322 < 0) = false := decide_eq_false c65
     clear c65
     by_cases c68 : t322 = t320
     rotate_left
     ·rw [if_neg c68] at H
      have c68b0 : (t322 == t320) = false := beq_eq_false_iff_ne.mpr c68
      have c68b1 : (t322 != t320) = true := bne_iff_ne.mpr c68
      obtain rfl := Option.some.inj H
      obtain ⟨Ao93, co93, eo93⟩ := Kd.R_slice HO_7.out
      subst eo93
      go_wp2_with (first | ((with_reducible refine gate_callee (f := 18) rfl ?_); refine goesL_ (some 64) rfl rfl Try.func18 (by kernel_rfl) rfl #[.slice Ao93 t300.length co93, .int .i64 1] rfl tm_ ?_; (with_reducible refine (laws_markEdgeS.calls kj42 (fun k_ => some k_ = (.slice Ao93 t300.length co93 : Value).ownBlock) (.slice Ao93 t300.length co93) t300 1 t320 t321 w _ ?side1 ?side2 A63.out).mono ?_); (case side1 => repeat (first | (with_reducible first | exact HB.out | apply below_alloc | apply pw_below_drewN | apply below_drew1 | refine below_set ?_ GE273.out | refine below_set ?_ GE299.out) | exact HB.out)); (case side2 => exact Kd.R_tight rfl HO_7.out); rintro e w94 ⟨rfl, hy0, hb, hkp⟩; refine ⟨_, rfl, ?_⟩; replace HO_4 := Aside0.mk (Kd.R_mono (ok' := fun k_ => no_ (.slice Ao93 t300.length co93) k_ ∧ no_ (.slice Ao26 t317.length co26) k_) (Kd.R_keptB (HO_4.out) hkp (fun k_ hk_ hs_ => (hk_.1) hs_)) (fun k_ hk_ => ⟨hk_.1.1, hk_.1.2⟩)); replace HO_300001 := Aside0.mk (Kd.R_mono (ok' := fun k_ => no_ v286 k_ ∧ no_ (.slice Ao93 t300.length co93) k_) (Kd.R_keptB (HO_300001.out) hkp (fun k_ hk_ hs_ => (hk_.2) hs_)) (fun k_ hk_ => ⟨hk_.1.1, hk_.1.2⟩)); replace HO_300002 := Aside0.mk (Kd.R_mono (ok' := fun k_ => True) (Kd.R_keptB ((Kd.R_apart' HO_300002.out (Kd.R_typed HO_7.out) (by decide))) hkp (fun k_ hk_ hs_ => (hk_.2) hs_)) (fun k_ hk_ => trivial)); replace HO_300003 := Aside0.mk (Kd.S_mono (ok' := fun k_ => no_ (.slice Ao27 t318.length co27) k_) (Kd.S_keptB ((Kd.S_apart' HO_300003.out (Kd.R_typed HO_7.out) (by decide))) hkp (fun k_ hk_ hs_ => (hk_.2) hs_)) (fun k_ hk_ => hk_.1.1)); replace BK273 := Aside0.mk (blk_kept (ba BK273.out) hkp (fun hs_ => (fun e_ => (Kd.R_ne HO_7.out BK273.out (by decide)) e_) hs_)); replace BK299 := Aside0.mk (blk_kept (ba BK299.out) hkp (fun hs_ => (fun e_ => (Kd.R_ne HO_7.out BK299.out (by decide)) e_) hs_)); replace HO_7 := Aside0.mk (Kd.R_reok rfl hy0 (fun k_ e_ => HO_7.out.1 k_ e_)); replace HB := Aside0.mk (hb); clear hb) | ((with_reducible refine gate_callee (f := 19) rfl ?_); refine goesL_ (some 67) rfl rfl Try.func19 (by kernel_rfl) rfl #[.slice Ao93 t321.length co93, .int .i64 1] rfl (by (try simp only [List.map_toArray, List.map_cons, List.map_nil]); first | done | (rw [show t321.length = t300.length from (Kd.R_reads' HO_7.out).1.symm] <;> rfl) | rfl | (simp only [List.length_drop, List.length_take]; rfl)) ?_; (with_reducible refine (laws_heldEdgeS.calls kj42 _ _ t321 1 t322 _ ?side1 ?side2 A64.out).mono ?_); (case side1 => exact ca (Kd.R_reads' HO_7.out).2.2); (case side2 => rw [show t321.length = t300.length from (Kd.R_reads' HO_7.out).1.symm]; exact (Kd.R_reads' HO_7.out).2.1); rintro e w' ⟨rfl, ⟨nd, rfl⟩⟩; refine ⟨_, rfl, ?_⟩))
      go_ret
      exact ⟨by first | rfl | (simp [errW_none, errW_some] <;> rfl) | (simp [*, errW_none, errW_some] <;> rfl), by repeat (first | (with_reducible first | exact HB.out | apply below_alloc | apply pw_below_drewN | apply below_drew1 | refine below_set ?_ GE273.out | refine below_set ?_ GE299.out) | exact HB.out)⟩
     rw [if_pos c68] at H
     have c68b0 : (t322 == t320) = true := beq_iff_eq.mpr c68
     have c68b1 : (t322 != t320) = false := bne_eq_false_iff_eq.mpr c68
     clear c68
     replace H := Option.bind_eq_some_iff.mp H
     obtain ⟨⟨t323, t324, t327, t330⟩, A690, H⟩ := H
     replace H : ((impl_UpLinks.f kj42 t323 t324 t327 t330).bind fun bt333 => ((laws_eqEdgeS.f kj42 bt333.1 t285).bind fun t337 => (if t337 = true then (laws_FnExactUpLinks.j2 kj42 t321 t320 (bt333.2 != t288)) else (laws_FnExactUpLinks.j2 kj42 t321 t320 true)))) = some r := H
     have A69 := Aside0.mk A690
     clear A690
     replace H := Option.bind_eq_some_iff.mp H
     obtain ⟨⟨t333, t336⟩, A700, H⟩ := H
     replace H : ((laws_eqEdgeS.f kj42 t333 t285).bind fun t337 => (if t337 = true then (laws_FnExactUpLinks.j2 kj42 t321 t320 (t336 != t288)) else (laws_FnExactUpLinks.j2 kj42 t321 t320 true))) = some r := H
     have A70 := Aside0.mk A700
     clear A700
     have HC71 := Aside0.mk H
     clear H
     obtain ⟨Ao72, co72, eo72⟩ := Kd.R_slice HO_7.out
     subst eo72
     go_upto_region 25 with (first | ((with_reducible refine gate_callee (f := 18) rfl ?_); refine goesL_ (some 64) rfl rfl Try.func18 (by kernel_rfl) rfl #[.slice Ao72 t300.length co72, .int .i64 1] rfl tm_ ?_; (with_reducible refine (laws_markEdgeS.calls kj42 (fun k_ => some k_ = (.slice Ao72 t300.length co72 : Value).ownBlock) (.slice Ao72 t300.length co72) t300 1 t320 t321 w _ ?side1 ?side2 A63.out).mono ?_); (case side1 => repeat (first | (with_reducible first | exact HB.out | apply below_alloc | apply pw_below_drewN | apply below_drew1 | refine below_set ?_ GE273.out | refine below_set ?_ GE299.out) | exact HB.out)); (case side2 => exact Kd.R_tight rfl HO_7.out); rintro e w73 ⟨rfl, hy0, hb, hkp⟩; refine ⟨_, rfl, ?_⟩; replace HO_4 := Aside0.mk (Kd.R_mono (ok' := fun k_ => no_ (.slice Ao72 t300.length co72) k_ ∧ no_ (.slice Ao26 t317.length co26) k_) (Kd.R_keptB (HO_4.out) hkp (fun k_ hk_ hs_ => (hk_.1) hs_)) (fun k_ hk_ => ⟨hk_.1.1, hk_.1.2⟩)); replace HO_300001 := Aside0.mk (Kd.R_mono (ok' := fun k_ => no_ v286 k_ ∧ no_ (.slice Ao72 t300.length co72) k_) (Kd.R_keptB (HO_300001.out) hkp (fun k_ hk_ hs_ => (hk_.2) hs_)) (fun k_ hk_ => ⟨hk_.1.1, hk_.1.2⟩)); replace HO_300002 := Aside0.mk (Kd.R_mono (ok' := fun k_ => True) (Kd.R_keptB ((Kd.R_apart' HO_300002.out (Kd.R_typed HO_7.out) (by decide))) hkp (fun k_ hk_ hs_ => (hk_.2) hs_)) (fun k_ hk_ => trivial)); replace HO_300003 := Aside0.mk (Kd.S_mono (ok' := fun k_ => no_ (.slice Ao27 t318.length co27) k_) (Kd.S_keptB ((Kd.S_apart' HO_300003.out (Kd.R_typed HO_7.out) (by decide))) hkp (fun k_ hk_ hs_ => (hk_.2) hs_)) (fun k_ hk_ => hk_.1.1)); replace BK273 := Aside0.mk (blk_kept (ba BK273.out) hkp (fun hs_ => (fun e_ => (Kd.R_ne HO_7.out BK273.out (by decide)) e_) hs_)); replace BK299 := Aside0.mk (blk_kept (ba BK299.out) hkp (fun hs_ => (fun e_ => (Kd.R_ne HO_7.out BK299.out (by decide)) e_) hs_)); replace HO_7 := Aside0.mk (Kd.R_reok rfl hy0 (fun k_ e_ => HO_7.out.1 k_ e_)); replace HB := Aside0.mk (hb); clear hb) | ((with_reducible refine gate_callee (f := 19) rfl ?_); refine goesL_ (some 67) rfl rfl Try.func19 (by kernel_rfl) rfl #[.slice Ao72 t321.length co72, .int .i64 1] rfl (by (try simp only [List.map_toArray, List.map_cons, List.map_nil]); first | done | (rw [show t321.length = t300.length from (Kd.R_reads' HO_7.out).1.symm] <;> rfl) | rfl | (simp only [List.length_drop, List.length_take]; rfl)) ?_; (with_reducible refine (laws_heldEdgeS.calls kj42 _ _ t321 1 t322 _ ?side1 ?side2 A64.out).mono ?_); (case side1 => exact ca (Kd.R_reads' HO_7.out).2.2); (case side2 => rw [show t321.length = t300.length from (Kd.R_reads' HO_7.out).1.symm]; exact (Kd.R_reads' HO_7.out).2.1); rintro e w' ⟨rfl, ⟨nd, rfl⟩⟩; refine ⟨_, rfl, ?_⟩; have hnb74 := NB273_299.out; have hnc74 := NB299_273.out; have hcz75_0 : w73.cell? ⟨gb273, 0, none⟩ = some (.int .i64 a0_0) := bc_ BK273 0; have hcz75_1 : w73.cell? ⟨gb273, 1, none⟩ = some (.slice A0_1 l0_1.length c0_1) := bc_ BK273 1; have hcz75_2 : w73.cell? ⟨gb273, 2, none⟩ = some (.slice A0_2 l0_2.length c0_2) := bc_ BK273 2; have hcz75_3 : w73.cell? ⟨gb273, 3, none⟩ = some (.slice A0_3 l0_3.length c0_3) := bc_ BK273 3; have hfz75_0 := blk_frozen BK273.out 0; have hfz75_1 := blk_frozen BK273.out 1; have hfz75_2 := blk_frozen BK273.out 2; have hfz75_3 := blk_frozen BK273.out 3) | ((with_reducible refine gate_callee (f := 13) rfl ?_); refine goesL_ (some 75) rfl rfl Try.func13 (by kernel_rfl) rfl #[.agg #[.int .i64 a0_0, .slice A0_1 l0_1.length c0_1, .slice A0_2 l0_2.length c0_2, .slice A0_3 l0_3.length c0_3]] rfl tm_ ?_; (with_reducible refine (laws_toCampus.calls kj42 a0_0 _ _ l0_1 _ _ l0_2 _ _ l0_3 t323 t324 t327 t330 _ ?side1 ?side2 ?side3 ?side4 ?side5 ?side6 A69.out).mono ?_); (case side1 => exact ca (Kd.C_below HR0_1.out (hB HB))); (case side2 => exact HC0_1.out); (case side3 => exact ca (Kd.C_below HR0_2.out (hB HB))); (case side4 => exact HC0_2.out); (case side5 => exact ca (Kd.C_below HR0_3.out (hB HB))); (case side6 => exact HC0_3.out); rintro e w76 ⟨v325, v328, v331, rfl, ho0, ho1, ho2, hb⟩; refine ⟨_, rfl, ?_⟩; have HO326 := Aside0.mk (Kd.R_lower (Kd.R_new' (Kd.R_new' (Kd.R_new' ho0 (rl_ HO_4)) (rl_ HO_7)) (rl_ HO_300001)) (below_size (hB HB))); have HO329 := Aside0.mk (Kd.R_lower (Kd.R_new' ho1 (rl_ HO_300002)) (below_size (hB HB))); have HO332 := Aside0.mk (Kd.S_lower (Kd.S_new' (Kd.S_new' ho2 (rl_ HO_300002)) (Kd.S_lt (sa HO_300003.out))) (below_size (hB HB))); replace HO_4 := re_ HO_4 ho0 hb; replace HO_7 := re_ HO_7 ho0 hb; replace HO_300001 := re_ HO_300001 ho0 hb; replace HO_300002 := re_ HO_300002 ho1 hb; replace HO_300003 := Aside0.mk (Kd.S_mono (Kd.S_told (Kd.S_told (Kd.S_old (sa HO_300003.out) hb) (Kd.R_base ho1)) (Kd.S_base ho2)) (fun _ h_ => h_.1)); replace BK273 := bb_ BK273 hb; replace BK299 := bb_ BK299 hb; replace HB := bst_ HB hb; clear hb ho0 ho1 ho2; obtain ⟨Ao77, co77, eo77⟩ := Kd.R_slice HO326.out; subst eo77; obtain ⟨Ao78, co78, eo78⟩ := Kd.R_slice HO329.out; subst eo78; obtain ⟨Ao79, co79, eo79⟩ := Kd.S_slice HO332.out; subst eo79) | ((with_reducible refine gate_callee (f := 14) rfl ?_); refine goesL_ (some 76) rfl rfl Try.func14 (by kernel_rfl) rfl #[.agg #[.int .i64 t323, .slice Ao77 t324.length co77, .slice Ao78 t327.length co78, .slice Ao79 t330.length co79]] rfl tm_ ?_; (with_reducible refine (impl_UpLinks.calls kj42 t323 _ _ t324 _ _ t327 _ _ t330 t333 t336 _ ?side1 ?side2 ?side3 ?side4 ?side5 ?side6 A70.out).mono ?_); (case side1 => exact ca (Kd.R_reads' HO326.out).2.2); (case side2 => exact (Kd.R_reads' HO326.out).2.1); (case side3 => exact ca (Kd.R_reads' HO329.out).2.2); (case side4 => exact (Kd.R_reads' HO329.out).2.1); (case side5 => exact ca (Kd.S_reads' HO332.out).2.2); (case side6 => exact (Kd.S_reads' HO332.out).2.1); rintro e w80 ⟨v334, rfl, ho0, hb⟩; refine ⟨_, rfl, ?_⟩; have HO335 := Aside0.mk (Kd.R_lower (Kd.R_new' (Kd.R_new' (Kd.R_new' (Kd.R_new' ho0 (rl_ HO_4)) (rl_ HO_7)) (rl_ HO_300001)) (rl_ HO326)) (below_size (hB HB))); replace HO_4 := re_ HO_4 ho0 hb; replace HO_7 := re_ HO_7 ho0 hb; replace HO_300001 := re_ HO_300001 ho0 hb; replace HO_300002 := rb_ HO_300002 hb; replace HO_300003 := Aside0.mk (Kd.S_below (sa HO_300003.out) hb); replace HO326 := re_ HO326 ho0 hb; replace HO329 := rb_ HO329 hb; replace HO332 := Aside0.mk (Kd.S_below (sa HO332.out) hb); replace BK273 := bb_ BK273 hb; replace BK299 := bb_ BK299 hb; replace HB := bst_ HB hb; clear hb ho0))
     (try simp only [Act.put, List.setIfInBounds_toArray, List.set_cons_zero, List.set_cons_succ])
     go_cut [87] (fun v87 wc => ∃ (kq : Nat) (x87_70 : Bool), v87 = .bool x87_70 ∧ Aside0 (laws_FnExactUpLinks.j2 kq t321 t320 x87_70 = some r) ∧ Aside0 (kq ≤ kj42) ∧ Aside0 (Kd.R k86 86 wc w.heap.size (fun k_ => no_ (.slice Ao26 t317.length co26) k_) (.slice Ao72 t300.length co72) t321) ∧ Aside0 (Kd.R k86 86 wc w.heap.size (fun k_ => no_ (.slice Ao72 t300.length co72) k_) (.slice Ao26 t317.length co26) t317) ∧ Aside0 (Kd.R (Kd.int .i64) 3 wc w.heap.size (fun _ => True) (.slice Ao27 t318.length co27) t318) ∧ Aside0 (Kd.S k130 130 wc w.heap.size (fun k_ => no_ (.slice Ao27 t318.length co27) k_) (.slice Ao28 t296.length co28) t296b) ∧ Aside0 (wc.heap[gb273]? = some (.cells #[.int .i64 a0_0, (.slice A0_1 l0_1.length c0_1), (.slice A0_2 l0_2.length c0_2), (.slice A0_3 l0_3.length c0_3)] 26 (0, 0))) ∧ Aside0 (wc.heap[gb299]? = some (.cells #[.int .i64 t289, (.slice Ao26 t317.length co26), (.slice Ao27 t318.length co27), (.slice Ao28 t296.length co28)] 33 (0, 0))) ∧ Aside0 (Below w.heap.size w wc))
     case first =>
      have H := HC71.out
      clear HC71
      replace H := Option.bind_eq_some_iff.mp H
      obtain ⟨t337, A810, H⟩ := H
      replace H : (if t337 = true then (laws_FnExactUpLinks.j2 kj42 t321 t320 (t336 != t288)) else (laws_FnExactUpLinks.j2 kj42 t321 t320 true)) = some r := H
      have A81 := Aside0.mk A810
      clear A810
      by_cases c82 : t337 = true
      ·subst c82
       rw [if_pos rfl] at H
       have H' := Aside0.mk H
       clear H
       obtain ⟨Ao83, co83, eo83⟩ := Kd.R_slice HO335.out
       subst eo83
       obtain ⟨Ao84, co84, eo84⟩ := Kd.R_slice HO_4.out
       subst eo84
       go_wp2_with (first | ((with_reducible refine gate_callee (f := 15) rfl ?_); refine goesL_ (some 81) rfl rfl Try.func15 (by kernel_rfl) rfl #[.slice Ao83 t333.length co83, .slice Ao84 t285.length co84] rfl tm_ ?_; (with_reducible refine (laws_eqEdgeS.calls kj42 _ _ t333 _ _ t285 true _ ?side1 ?side2 ?side3 ?side4 A81.out).mono ?_); (case side1 => exact ca (Kd.R_reads' HO335.out).2.2); (case side2 => exact (Kd.R_reads' HO335.out).2.1); (case side3 => exact ca (Kd.R_reads' HO_4.out).2.2); (case side4 => exact (Kd.R_reads' HO_4.out).2.1); rintro e w85 ⟨rfl, hb⟩; refine ⟨_, rfl, ?_⟩; replace HO_4 := rb_ HO_4 hb; replace HO_7 := rb_ HO_7 hb; replace HO_300001 := rb_ HO_300001 hb; replace HO_300002 := rb_ HO_300002 hb; replace HO_300003 := Aside0.mk (Kd.S_below (sa HO_300003.out) hb); replace HO326 := rb_ HO326 hb; replace HO329 := rb_ HO329 hb; replace HO332 := Aside0.mk (Kd.S_below (sa HO332.out) hb); replace HO335 := rb_ HO335 hb; replace BK273 := bb_ BK273 hb; replace BK299 := bb_ BK299 hb; replace HB := bst_ HB hb; clear hb))
       go_meet
       case rel => exact ⟨_, ((t336 != t288)), (by first | rfl | (simp; done) | (simp [*]; done)), H', ⟨by have := HJ10.out; have := HJ42.out; first | omega | exact Nat.le_refl _⟩, ⟨by (try simp only [hl300001_42]); (try simp only [hl300002_42]); (with_reducible repeat (first | apply Kd.R_alloc | apply Kd.R_drewN | apply Kd.R_drew)); exact Kd.R_mono HO_7.out (fun _ hk => hk.1.1.2)⟩, ⟨by (try simp only [hl300001_42]); (try simp only [hl300002_42]); (with_reducible repeat (first | apply Kd.R_alloc | apply Kd.R_drewN | apply Kd.R_drew)); exact Kd.R_mono HO_300001.out (fun _ hk => hk.1.1.2)⟩, ⟨by (try simp only [hl300001_42]); (try simp only [hl300002_42]); (with_reducible repeat (first | apply Kd.R_alloc | apply Kd.R_drewN | apply Kd.R_drew)); exact Kd.R_mono HO_300002.out (fun _ hk => trivial)⟩, ⟨by (try simp only [hl300001_42]); (try simp only [hl300002_42]); (with_reducible repeat (first | apply Kd.S_alloc | apply Kd.S_drewN | apply Kd.S_drew)); exact Kd.S_mono HO_300003.out (fun _ hk => hk.1.1)⟩, ⟨by (try simp only [hl300001_42]); (try simp only [hl300002_42]); (with_reducible repeat (first | refine blk_drewN ?_ _ | refine blk_drew ?_ | refine blk_alloc ?_ _)); exact BK273.out⟩, ⟨by (try simp only [hl300001_42]); (try simp only [hl300002_42]); (with_reducible repeat (first | refine blk_drewN ?_ _ | refine blk_drew ?_ | refine blk_alloc ?_ _)); exact BK299.out⟩, ⟨hB HB⟩⟩
      replace c82 := Bool.eq_false_iff.mpr c82
      subst c82
      rw [if_neg (show ¬ (false = true) by decide)] at H
      have H' := Aside0.mk H
      clear H
      obtain ⟨Ao86, co86, eo86⟩ := Kd.R_slice HO335.out
      subst eo86
      obtain ⟨Ao87, co87, eo87⟩ := Kd.R_slice HO_4.out
      subst eo87
      go_wp2_with (first | ((with_reducible refine gate_callee (f := 15) rfl ?_); refine goesL_ (some 81) rfl rfl Try.func15 (by kernel_rfl) rfl #[.slice Ao86 t333.length co86, .slice Ao87 t285.length co87] rfl tm_ ?_; (with_reducible refine (laws_eqEdgeS.calls kj42 _ _ t333 _ _ t285 false _ ?side1 ?side2 ?side3 ?side4 A81.out).mono ?_); (case side1 => exact ca (Kd.R_reads' HO335.out).2.2); (case side2 => exact (Kd.R_reads' HO335.out).2.1); (case side3 => exact ca (Kd.R_reads' HO_4.out).2.2); (case side4 => exact (Kd.R_reads' HO_4.out).2.1); rintro e w88 ⟨rfl, hb⟩; refine ⟨_, rfl, ?_⟩; replace HO_4 := rb_ HO_4 hb; replace HO_7 := rb_ HO_7 hb; replace HO_300001 := rb_ HO_300001 hb; replace HO_300002 := rb_ HO_300002 hb; replace HO_300003 := Aside0.mk (Kd.S_below (sa HO_300003.out) hb); replace HO326 := rb_ HO326 hb; replace HO329 := rb_ HO329 hb; replace HO332 := Aside0.mk (Kd.S_below (sa HO332.out) hb); replace HO335 := rb_ HO335 hb; replace BK273 := bb_ BK273 hb; replace BK299 := bb_ BK299 hb; replace HB := bst_ HB hb; clear hb))
      go_meet
      case rel => exact ⟨_, (true), (by first | rfl | (simp; done) | (simp [*]; done)), H', ⟨by have := HJ10.out; have := HJ42.out; first | omega | exact Nat.le_refl _⟩, ⟨by (try simp only [hl300001_42]); (try simp only [hl300002_42]); (with_reducible repeat (first | apply Kd.R_alloc | apply Kd.R_drewN | apply Kd.R_drew)); exact Kd.R_mono HO_7.out (fun _ hk => hk.1.1.2)⟩, ⟨by (try simp only [hl300001_42]); (try simp only [hl300002_42]); (with_reducible repeat (first | apply Kd.R_alloc | apply Kd.R_drewN | apply Kd.R_drew)); exact Kd.R_mono HO_300001.out (fun _ hk => hk.1.1.2)⟩, ⟨by (try simp only [hl300001_42]); (try simp only [hl300002_42]); (with_reducible repeat (first | apply Kd.R_alloc | apply Kd.R_drewN | apply Kd.R_drew)); exact Kd.R_mono HO_300002.out (fun _ hk => trivial)⟩, ⟨by (try simp only [hl300001_42]); (try simp only [hl300002_42]); (with_reducible repeat (first | apply Kd.S_alloc | apply Kd.S_drewN | apply Kd.S_drew)); exact Kd.S_mono HO_300003.out (fun _ hk => hk.1.1)⟩, ⟨by (try simp only [hl300001_42]); (try simp only [hl300002_42]); (with_reducible repeat (first | refine blk_drewN ?_ _ | refine blk_drew ?_ | refine blk_alloc ?_ _)); exact BK273.out⟩, ⟨by (try simp only [hl300001_42]); (try simp only [hl300002_42]); (with_reducible repeat (first | refine blk_drewN ?_ _ | refine blk_drew ?_ | refine blk_alloc ?_ _)); exact BK299.out⟩, ⟨hB HB⟩⟩
     case rest =>
      clear HC71
      try clear c3
      try clear c3b0
      try clear c38
      try clear c41
      try clear c62
      try clear c65
      try clear c65b0
      try clear c68
      try clear c68b0
      try clear c68b1
      try clear hcz13_0
      try clear hcz13_1
      try clear hcz13_2
      try clear hcz13_3
      try clear hcz15_0
      try clear hcz15_1
      try clear hcz15_2
      try clear hcz15_3
      try clear hcz21_0
      try clear hcz21_1
      try clear hcz21_2
      try clear hcz21_3
      try clear hcz25_0
      try clear hcz25_1
      try clear hcz25_2
      try clear hcz25_3
      try clear hcz51_0
      try clear hcz51_1
      try clear hcz51_2
      try clear hcz51_3
      try clear hcz75_0
      try clear hcz75_1
      try clear hcz75_2
      try clear hcz75_3
      try clear hfz13_0
      try clear hfz13_1
      try clear hfz13_2
      try clear hfz13_3
      try clear hfz15_0
      try clear hfz15_1
      try clear hfz15_2
      try clear hfz15_3
      try clear hfz21_0
      try clear hfz21_1
      try clear hfz21_2
      try clear hfz21_3
      try clear hfz25_0
      try clear hfz25_1
      try clear hfz25_2
      try clear hfz25_3
      try clear hfz51_0
      try clear hfz51_1
      try clear hfz51_2
      try clear hfz51_3
      try clear hfz75_0
      try clear hfz75_1
      try clear hfz75_2
      try clear hfz75_3
      obtain ⟨kq, x87_70, rfl, HA, HJ70, HO_7, HO_300001, HO_300002, HO_300003, BK273, BK299, HB⟩ := hcut
      have hl7_70 := (Kd.R_reads' HO_7.out).1
      rw [hl7_70] at HO_7
      (try simp only [hl7_70])
      (try simp only [hl7_70] at BK273)
      (try simp only [hl7_70] at BK299)
      (try simp only [hl7_70] at HO_300001)
      (try simp only [hl7_70] at HO_300002)
      (try simp only [hl7_70] at HO_300003)
      cases kq with
      | zero => exact absurd HA.out (by simp [laws_FnExactUpLinks.j2])
      | succ kj70 =>
       have H := HA.out
       clear HA
       simp only [laws_FnExactUpLinks.j2] at H
       by_cases c89 : x87_70 = true
       ·subst c89
        rw [if_pos rfl] at H
        obtain rfl := Option.some.inj H
        go_wp2
        go_ret
        exact ⟨by first | rfl | (simp [errW_none, errW_some] <;> rfl) | (simp [*, errW_none, errW_some] <;> rfl), by repeat (first | (with_reducible first | exact HB.out | apply below_alloc | apply pw_below_drewN | apply below_drew1 | refine below_set ?_ GE273.out | refine below_set ?_ GE299.out) | exact HB.out)⟩
       replace c89 := Bool.eq_false_iff.mpr c89
       subst c89
       rw [if_neg (show ¬ (false = true) by decide)] at H
       replace H := Option.bind_eq_some_iff.mp H
       obtain ⟨t338, A900, H⟩ := H
       replace H : (if t338 < 0 then (some false) else (if t338 = t320 then (some true) else (some false))) = some r := H
       have A90 := Aside0.mk A900
       clear A900
       by_cases c91 : t338 < 0
       ·rw [if_pos c91] at H
        have c91b0 : decide (t338 < 0) = true := decide_eq_true c91
        clear c91
        obtain rfl := Option.some.inj H
        go_wp2_with (first | ((with_reducible refine gate_callee (f := 19) rfl ?_); refine goesL_ (some 90) rfl rfl Try.func19 (by kernel_rfl) rfl #[.slice Ao72 t321.length co72, .int .i64 1] rfl tm_ ?_; (with_reducible refine (laws_heldEdgeS.calls kj70 _ _ t321 1 t338 _ ?side1 ?side2 A90.out).mono ?_); (case side1 => exact ca (Kd.R_reads' HO_7.out).2.2); (case side2 => exact (Kd.R_reads' HO_7.out).2.1); rintro e w' ⟨rfl, ⟨nd, rfl⟩⟩; refine ⟨_, rfl, ?_⟩))
        go_ret
        exact ⟨by first | rfl | (simp [errW_none, errW_some] <;> rfl) | (simp [*, errW_none, errW_some] <;> rfl), by repeat (first | (with_reducible first | exact HB.out | apply below_alloc | apply pw_below_drewN | apply below_drew1 | refine below_set ?_ GE273.out | refine below_set ?_ GE299.out) | exact HB.out)⟩
       rw [if_neg c91] at H
       have c91b0 : decide (t338 < 0) = false := decide_eq_false c91
       clear c91
       by_cases c92 : t338 = t320
       rotate_left
       ·rw [if_neg c92] at H
        have c92b0 : (t338 == t320) = false := beq_eq_false_iff_ne.mpr c92
        have c92b1 : (t338 != t320) = true := bne_iff_ne.mpr c92
        obtain rfl := Option.some.inj H
        go_wp2_with (first | ((with_reducible refine gate_callee (f := 19) rfl ?_); refine goesL_ (some 90) rfl rfl Try.func19 (by kernel_rfl) rfl #[.slice Ao72 t321.length co72, .int .i64 1] rfl tm_ ?_; (with_reducible refine (laws_heldEdgeS.calls kj70 _ _ t321 1 t338 _ ?side1 ?side2 A90.out).mono ?_); (case side1 => exact ca (Kd.R_reads' HO_7.out).2.2); (case side2 => exact (Kd.R_reads' HO_7.out).2.1); rintro e w' ⟨rfl, ⟨nd, rfl⟩⟩; refine ⟨_, rfl, ?_⟩))
        go_ret
        exact ⟨by first | rfl | (simp [errW_none, errW_some] <;> rfl) | (simp [*, errW_none, errW_some] <;> rfl), by repeat (first | (with_reducible first | exact HB.out | apply below_alloc | apply pw_below_drewN | apply below_drew1 | refine below_set ?_ GE273.out | refine below_set ?_ GE299.out) | exact HB.out)⟩
       rw [if_pos c92] at H
       have c92b0 : (t338 == t320) = true := beq_iff_eq.mpr c92
       have c92b1 : (t338 != t320) = false := bne_eq_false_iff_eq.mpr c92
       clear c92
       obtain rfl := Option.some.inj H
       go_wp2_with (first | ((with_reducible refine gate_callee (f := 19) rfl ?_); refine goesL_ (some 90) rfl rfl Try.func19 (by kernel_rfl) rfl #[.slice Ao72 t321.length co72, .int .i64 1] rfl tm_ ?_; (with_reducible refine (laws_heldEdgeS.calls kj70 _ _ t321 1 t338 _ ?side1 ?side2 A90.out).mono ?_); (case side1 => exact ca (Kd.R_reads' HO_7.out).2.2); (case side2 => exact (Kd.R_reads' HO_7.out).2.1); rintro e w' ⟨rfl, ⟨nd, rfl⟩⟩; refine ⟨_, rfl, ?_⟩))
       go_ret
       exact ⟨by first | rfl | (simp [errW_none, errW_some] <;> rfl) | (simp [*, errW_none, errW_some] <;> rfl), by repeat (first | (with_reducible first | exact HB.out | apply below_alloc | apply pw_below_drewN | apply below_drew1 | refine below_set ?_ GE273.out | refine below_set ?_ GE299.out) | exact HB.out)⟩

end Go.Proofs.Ytpohlcjkabojcaa.P
