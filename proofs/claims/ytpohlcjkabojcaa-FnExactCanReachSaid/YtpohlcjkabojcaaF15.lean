import Derived.Test.YtpohlcjkabojcaaF0
import Derived.Test.YtpohlcjkabojcaaF1
import Derived.Test.YtpohlcjkabojcaaF3
import Derived.Test.YtpohlcjkabojcaaF7
import Derived.Test.YtpohlcjkabojcaaF14
namespace Go.Proofs.Ytpohlcjkabojcaa.P
open Go.RowKit Go.Proofs.YtpohlcjkabojcaaW.PrintWords Go.Proofs.YtpohlcjkabojcaaW.PrintLast Go.Proofs.YtpohlcjkabojcaaW.PrintMore
attribute [local go_sem] max2_int min2_int max_two min_two max_three min_three max_four min_four   -- for this text's walks alone
set_option linter.unusedVariables false
set_option linter.unusedSimpArgs false

def laws_FnExactCanReach.j0 : Nat → Bool → Int → List (S105) → List Int → List (S129) → Int → List (S86) → List Int → List (S130) → Option (Bool)
 | 0, _, _, _, _, _, _, _, _, _ => none
 | k + 1, x42, x462000, x462001, x462002, x462003, x486000, x486001, x486002, x486003 => if x42 = true then (some false) else ((laws_toCampus.f k x462000 x462001 x462002 x462003).bind fun bt488 => ((laws_eqCampus.f k x486000 x486001 x486002 x486003 bt488.1 bt488.2.1 bt488.2.2.1 bt488.2.2.2).bind fun t498 => (if t498 = true then (some true) else (some false))))
def laws_FnExactCanReach.f (k : Nat) (a0_0 : Int) (l0_1 : List (S105)) (l0_2 : List Int) (l0_3 : List (S129)) (a1 : Int) (a2 : Int) : Option (Bool) := (laws_szCampus.f k a0_0 l0_1 l0_2 l0_3 1048576).bind fun t462 => (if t462 < 0 then (some true) else ((laws_toCampus.f k a0_0 l0_1 l0_2 l0_3).bind fun bt463 => ((spec_CanReach.f k bt463.1 bt463.2.1 bt463.2.2.1 bt463.2.2.2 a1 a2).bind fun bt473 => ((laws_toCampus.f k a0_0 l0_1 l0_2 l0_3).bind fun bt475 => ((impl_CanReach.f k bt475.1 bt475.2.1 bt475.2.2.1 bt475.2.2.2 a1 a2).bind fun bt486 => (if (bt486.1 != bt473.1) = true then (laws_FnExactCanReach.j0 k true a0_0 l0_1 l0_2 l0_3 bt475.1 bt475.2.1 bt475.2.2.1 bt475.2.2.2) else (laws_FnExactCanReach.j0 k (bt486.2 != bt473.2) a0_0 l0_1 l0_2 l0_3 bt475.1 bt475.2.1 bt475.2.2.1 bt475.2.2.2)))))))
theorem laws_FnExactCanReach.mono_l : ∀ k, (∀ y0 y1 y2 y3 y4 y5 y6 y7 y8, LeO (laws_FnExactCanReach.j0 k y0 y1 y2 y3 y4 y5 y6 y7 y8) (laws_FnExactCanReach.j0 (k + 1) y0 y1 y2 y3 y4 y5 y6 y7 y8))
 | 0 => fun _ _ _ _ _ _ _ _ _ r h => by simp [laws_FnExactCanReach.j0] at h
 | k + 1 => by
  have ih0 := laws_FnExactCanReach.mono_l k
  ·intro y0 y1 y2 y3 y4 y5 y6 y7 y8
   unfold laws_FnExactCanReach.j0
   repeat' first
   | (with_reducible exact ih0 _ _ _ _ _ _ _ _ _)
   | (with_reducible exact impl_CanReach.mono _ _ _ _ _ _ _)
   | (with_reducible exact laws_eqCampus.mono _ _ _ _ _ _ _ _ _)
   | (with_reducible exact laws_szCampus.mono _ _ _ _ _ _)
   | (with_reducible exact laws_toCampus.mono _ _ _ _ _)
   | (with_reducible exact spec_CanReach.mono _ _ _ _ _ _ _)
   | (with_reducible exact LeO.refl _)
   | (with_reducible exact LeO.none _)
   | (with_reducible refine LeO.ite ?_ ?_)
   | (with_reducible refine LeO.bind ?_ (fun _ => ?_))
theorem laws_FnExactCanReach.mono : ∀ a0 a1 a2 a3 a4 a5 k, LeO (laws_FnExactCanReach.f k a0 a1 a2 a3 a4 a5) (laws_FnExactCanReach.f (k + 1) a0 a1 a2 a3 a4 a5) := by
 intro a0 a1 a2 a3 a4 a5 k
 have ih0 := laws_FnExactCanReach.mono_l k
 unfold laws_FnExactCanReach.f
 repeat' first
   | (with_reducible exact ih0 _ _ _ _ _ _ _ _ _)
   | (with_reducible exact impl_CanReach.mono _ _ _ _ _ _ _)
   | (with_reducible exact laws_eqCampus.mono _ _ _ _ _ _ _ _ _)
   | (with_reducible exact laws_szCampus.mono _ _ _ _ _ _)
   | (with_reducible exact laws_toCampus.mono _ _ _ _ _)
   | (with_reducible exact spec_CanReach.mono _ _ _ _ _ _ _)
   | (with_reducible exact LeO.refl _)
   | (with_reducible exact LeO.none _)
   | (with_reducible refine LeO.ite ?_ ?_)
   | (with_reducible refine LeO.bind ?_ (fun _ => ?_))
set_option maxHeartbeats 8000000 in
set_option maxRecDepth 100000 in
theorem laws_FnExactCanReach.calls (k : Nat) (a0_0 : Int) (A0_1 : Option Addr) (c0_1 : Nat) (l0_1 : List (S105)) (A0_2 : Option Addr) (c0_2 : Nat) (l0_2 : List Int) (A0_3 : Option Addr) (c0_3 : Nat) (l0_3 : List (S129)) (a1 : Int) (a2 : Int) (r : Bool) (w : World) (hr0_1 : Kd.C k105 w A0_1 l0_1.length l0_1) (hc0_1 : l0_1.length ≤ c0_1) (hr0_2 : Kd.C (Kd.int .i64) w A0_2 l0_2.length l0_2) (hc0_2 : l0_2.length ≤ c0_2) (hr0_3 : Kd.C k129 w A0_3 l0_3.length l0_3) (hc0_3 : l0_3.length ≤ c0_3) (h : laws_FnExactCanReach.f k a0_0 l0_1 l0_2 l0_3 a1 a2 = some r) :
  Calls Try.prog 4 #[.agg #[.int .i64 a0_0, .slice A0_1 l0_1.length c0_1, .slice A0_2 l0_2.length c0_2, .slice A0_3 l0_3.length c0_3], .int .i64 a1, .int .i64 a2] w fun e w' => e = .returned (.bool r) ∧ Below w.heap.size w w' := by
 have hu26 := Try.underlying26
 have hu33 := Try.underlying33
 have HR0_1 := Aside0.mk hr0_1
 have HC0_1 := Aside0.mk hc0_1
 clear hr0_1 hc0_1
 have HR0_2 := Aside0.mk hr0_2
 have HC0_2 := Aside0.mk hc0_2
 clear hr0_2 hc0_2
 have HR0_3 := Aside0.mk hr0_3
 have HC0_3 := Aside0.mk hc0_3
 clear hr0_3 hc0_3
 have HB := Aside0.mk (Below.refl w.heap.size w)
 have H : ((laws_szCampus.f k a0_0 l0_1 l0_2 l0_3 1048576).bind fun t462 => (if t462 < 0 then (some true) else ((laws_toCampus.f k a0_0 l0_1 l0_2 l0_3).bind fun bt463 => ((spec_CanReach.f k bt463.1 bt463.2.1 bt463.2.2.1 bt463.2.2.2 a1 a2).bind fun bt473 => ((laws_toCampus.f k a0_0 l0_1 l0_2 l0_3).bind fun bt475 => ((impl_CanReach.f k bt475.1 bt475.2.1 bt475.2.2.1 bt475.2.2.2 a1 a2).bind fun bt486 => (if (bt486.1 != bt473.1) = true then (laws_FnExactCanReach.j0 k true a0_0 l0_1 l0_2 l0_3 bt475.1 bt475.2.1 bt475.2.2.1 bt475.2.2.2) else (laws_FnExactCanReach.j0 k (bt486.2 != bt473.2) a0_0 l0_1 l0_2 l0_3 bt475.1 bt475.2.1 bt475.2.2.1 bt475.2.2.2)))))))) = some r := h
 clear h
 replace H := Option.bind_eq_some_iff.mp H
 obtain ⟨t462, A40, H⟩ := H
 replace H : (if t462 < 0 then (some true) else ((laws_toCampus.f k a0_0 l0_1 l0_2 l0_3).bind fun bt463 => ((spec_CanReach.f k bt463.1 bt463.2.1 bt463.2.2.1 bt463.2.2.2 a1 a2).bind fun bt473 => ((laws_toCampus.f k a0_0 l0_1 l0_2 l0_3).bind fun bt475 => ((impl_CanReach.f k bt475.1 bt475.2.1 bt475.2.2.1 bt475.2.2.2 a1 a2).bind fun bt486 => (if (bt486.1 != bt473.1) = true then (laws_FnExactCanReach.j0 k true a0_0 l0_1 l0_2 l0_3 bt475.1 bt475.2.1 bt475.2.2.1 bt475.2.2.2) else (laws_FnExactCanReach.j0 k (bt486.2 != bt473.2) a0_0 l0_1 l0_2 l0_3 bt475.1 bt475.2.1 bt475.2.2.1 bt475.2.2.2))))))) = some r := H
 have A4 := Aside0.mk A40
 clear A40
 by_cases c5 : t462 < 0
 ·rw [if_pos c5] at H
  have c5b0 : decide (t462 < 0) = true := decide_eq_true c5
  clear c5
  obtain rfl := Option.some.inj H
  go_enter Try.func4, Try.ntmps4
  go_wp2_with (first | ((with_reducible refine gate_dst (N := 3) rfl ?_); refine box_event ?hg (N := 3) ?hd (cs := #[.int .i64 a0_0, .slice A0_1 l0_1.length c0_1, .slice A0_2 l0_2.length c0_2, .slice A0_3 l0_3.length c0_3]) (t := 26) ?hr ?_; (case hd => rfl); (case hg => rfl); (case hr => first | (go_simp; done) | (go_simp; rfl)); intro gb461 hg w6 hbox hb; have BK461 := Aside0.mk (hbox); have GW461 := gw_ hg HB; have GE461 := gw_ hg HB; replace HB := bst_ HB hb; clear hb hbox hg; have hcz7_0 : w6.cell? ⟨gb461, 0, none⟩ = some (.int .i64 a0_0) := bc_ BK461 0; have hcz7_1 : w6.cell? ⟨gb461, 1, none⟩ = some (.slice A0_1 l0_1.length c0_1) := bc_ BK461 1; have hcz7_2 : w6.cell? ⟨gb461, 2, none⟩ = some (.slice A0_2 l0_2.length c0_2) := bc_ BK461 2; have hcz7_3 : w6.cell? ⟨gb461, 3, none⟩ = some (.slice A0_3 l0_3.length c0_3) := bc_ BK461 3; have hfz7_0 := blk_frozen BK461.out 0; have hfz7_1 := blk_frozen BK461.out 1; have hfz7_2 := blk_frozen BK461.out 2; have hfz7_3 := blk_frozen BK461.out 3) | ((with_reducible refine gate_callee (f := 11) rfl ?_); refine goesL_ (some 15) rfl rfl Try.func11 (by kernel_rfl) rfl #[.agg #[.int .i64 a0_0, .slice A0_1 l0_1.length c0_1, .slice A0_2 l0_2.length c0_2, .slice A0_3 l0_3.length c0_3], .int .i64 1048576] rfl tm_ ?_; (with_reducible refine (laws_szCampus.calls k a0_0 _ _ l0_1 _ _ l0_2 _ _ l0_3 1048576 t462 _ ?side1 ?side2 ?side3 ?side4 ?side5 ?side6 A4.out).mono ?_); (case side1 => exact ca (Kd.C_below HR0_1.out HB.out)); (case side2 => exact HC0_1.out); (case side3 => exact ca (Kd.C_below HR0_2.out HB.out)); (case side4 => exact HC0_2.out); (case side5 => exact ca (Kd.C_below HR0_3.out HB.out)); (case side6 => exact HC0_3.out); rintro e w8 ⟨rfl, hb⟩; refine ⟨_, rfl, ?_⟩; replace BK461 := bb_ BK461 hb; replace HB := bst_ HB hb; clear hb))
  go_ret
  exact ⟨by first | rfl | (simp [errW_none, errW_some] <;> rfl) | (simp [*, errW_none, errW_some] <;> rfl), by repeat (first | (with_reducible first | exact HB.out | apply below_alloc | apply pw_below_drewN | apply below_drew1 | refine below_set ?_ GE461.out) | exact HB.out)⟩
 rw [if_neg c5] at H
 have c5b0 : decide (t462 < 0) = false := decide_eq_false c5
 clear c5
 replace H := Option.bind_eq_some_iff.mp H
 obtain ⟨⟨t463, t464, t467, t470⟩, A90, H⟩ := H
 replace H : ((spec_CanReach.f k t463 t464 t467 t470 a1 a2).bind fun bt473 => ((laws_toCampus.f k a0_0 l0_1 l0_2 l0_3).bind fun bt475 => ((impl_CanReach.f k bt475.1 bt475.2.1 bt475.2.2.1 bt475.2.2.2 a1 a2).bind fun bt486 => (if (bt486.1 != bt473.1) = true then (laws_FnExactCanReach.j0 k true a0_0 l0_1 l0_2 l0_3 bt475.1 bt475.2.1 bt475.2.2.1 bt475.2.2.2) else (laws_FnExactCanReach.j0 k (bt486.2 != bt473.2) a0_0 l0_1 l0_2 l0_3 bt475.1 bt475.2.1 bt475.2.2.1 bt475.2.2.2))))) = some r := H
 have A9 := Aside0.mk A90
 clear A90
 replace H := Option.bind_eq_some_iff.mp H
 obtain ⟨⟨t473, t474⟩, A100, H⟩ := H
 replace H : ((laws_toCampus.f k a0_0 l0_1 l0_2 l0_3).bind fun bt475 => ((impl_CanReach.f k bt475.1 bt475.2.1 bt475.2.2.1 bt475.2.2.2 a1 a2).bind fun bt486 => (if (bt486.1 != t473) = true then (laws_FnExactCanReach.j0 k true a0_0 l0_1 l0_2 l0_3 bt475.1 bt475.2.1 bt475.2.2.1 bt475.2.2.2) else (laws_FnExactCanReach.j0 k (bt486.2 != t474) a0_0 l0_1 l0_2 l0_3 bt475.1 bt475.2.1 bt475.2.2.1 bt475.2.2.2)))) = some r := H
 have A10 := Aside0.mk A100
 clear A100
 replace H := Option.bind_eq_some_iff.mp H
 obtain ⟨⟨t475, t476, t479, t482⟩, A110, H⟩ := H
 replace H : ((impl_CanReach.f k t475 t476 t479 t482 a1 a2).bind fun bt486 => (if (bt486.1 != t473) = true then (laws_FnExactCanReach.j0 k true a0_0 l0_1 l0_2 l0_3 t475 t476 t479 t482) else (laws_FnExactCanReach.j0 k (bt486.2 != t474) a0_0 l0_1 l0_2 l0_3 t475 t476 t479 t482))) = some r := H
 have A11 := Aside0.mk A110
 clear A110
 replace H := Option.bind_eq_some_iff.mp H
 obtain ⟨⟨t486, t487⟩, A120, H⟩ := H
 replace H : (if (t486 != t473) = true then (laws_FnExactCanReach.j0 k true a0_0 l0_1 l0_2 l0_3 t475 t476 t479 t482) else (laws_FnExactCanReach.j0 k (t487 != t474) a0_0 l0_1 l0_2 l0_3 t475 t476 t479 t482)) = some r := H
 have A12 := Aside0.mk A120
 clear A120
 have HC13 := Aside0.mk H
 clear H
 go_enter Try.func4, Try.ntmps4
 go_upto_region 8 with (first | ((with_reducible refine gate_dst (N := 3) rfl ?_); refine box_event ?hg (N := 3) ?hd (cs := #[.int .i64 a0_0, .slice A0_1 l0_1.length c0_1, .slice A0_2 l0_2.length c0_2, .slice A0_3 l0_3.length c0_3]) (t := 26) ?hr ?_; (case hd => rfl); (case hg => rfl); (case hr => first | (go_simp; done) | (go_simp; rfl)); intro gb461 hg w14 hbox hb; have BK461 := Aside0.mk (hbox); have GW461 := gw_ hg HB; have GE461 := gw_ hg HB; replace HB := bst_ HB hb; clear hb hbox hg; have hcz15_0 : w14.cell? ⟨gb461, 0, none⟩ = some (.int .i64 a0_0) := bc_ BK461 0; have hcz15_1 : w14.cell? ⟨gb461, 1, none⟩ = some (.slice A0_1 l0_1.length c0_1) := bc_ BK461 1; have hcz15_2 : w14.cell? ⟨gb461, 2, none⟩ = some (.slice A0_2 l0_2.length c0_2) := bc_ BK461 2; have hcz15_3 : w14.cell? ⟨gb461, 3, none⟩ = some (.slice A0_3 l0_3.length c0_3) := bc_ BK461 3; have hfz15_0 := blk_frozen BK461.out 0; have hfz15_1 := blk_frozen BK461.out 1; have hfz15_2 := blk_frozen BK461.out 2; have hfz15_3 := blk_frozen BK461.out 3) | ((with_reducible refine gate_callee (f := 11) rfl ?_); refine goesL_ (some 15) rfl rfl Try.func11 (by kernel_rfl) rfl #[.agg #[.int .i64 a0_0, .slice A0_1 l0_1.length c0_1, .slice A0_2 l0_2.length c0_2, .slice A0_3 l0_3.length c0_3], .int .i64 1048576] rfl tm_ ?_; (with_reducible refine (laws_szCampus.calls k a0_0 _ _ l0_1 _ _ l0_2 _ _ l0_3 1048576 t462 _ ?side1 ?side2 ?side3 ?side4 ?side5 ?side6 A4.out).mono ?_); (case side1 => exact ca (Kd.C_below HR0_1.out HB.out)); (case side2 => exact HC0_1.out); (case side3 => exact ca (Kd.C_below HR0_2.out HB.out)); (case side4 => exact HC0_2.out); (case side5 => exact ca (Kd.C_below HR0_3.out HB.out)); (case side6 => exact HC0_3.out); rintro e w16 ⟨rfl, hb⟩; refine ⟨_, rfl, ?_⟩; replace BK461 := bb_ BK461 hb; replace HB := bst_ HB hb; clear hb; have hcz17_0 : w16.cell? ⟨gb461, 0, none⟩ = some (.int .i64 a0_0) := bc_ BK461 0; have hcz17_1 : w16.cell? ⟨gb461, 1, none⟩ = some (.slice A0_1 l0_1.length c0_1) := bc_ BK461 1; have hcz17_2 : w16.cell? ⟨gb461, 2, none⟩ = some (.slice A0_2 l0_2.length c0_2) := bc_ BK461 2; have hcz17_3 : w16.cell? ⟨gb461, 3, none⟩ = some (.slice A0_3 l0_3.length c0_3) := bc_ BK461 3; have hfz17_0 := blk_frozen BK461.out 0; have hfz17_1 := blk_frozen BK461.out 1; have hfz17_2 := blk_frozen BK461.out 2; have hfz17_3 := blk_frozen BK461.out 3) | ((with_reducible refine gate_callee (f := 13) rfl ?_); refine goesL_ (some 20) rfl rfl Try.func13 (by kernel_rfl) rfl #[.agg #[.int .i64 a0_0, .slice A0_1 l0_1.length c0_1, .slice A0_2 l0_2.length c0_2, .slice A0_3 l0_3.length c0_3]] rfl tm_ ?_; (with_reducible refine (laws_toCampus.calls k a0_0 _ _ l0_1 _ _ l0_2 _ _ l0_3 t463 t464 t467 t470 _ ?side1 ?side2 ?side3 ?side4 ?side5 ?side6 A9.out).mono ?_); (case side1 => exact ca (Kd.C_below HR0_1.out HB.out)); (case side2 => exact HC0_1.out); (case side3 => exact ca (Kd.C_below HR0_2.out HB.out)); (case side4 => exact HC0_2.out); (case side5 => exact ca (Kd.C_below HR0_3.out HB.out)); (case side6 => exact HC0_3.out); rintro e w18 ⟨v465, v468, v471, rfl, ho0, ho1, ho2, hb⟩; refine ⟨_, rfl, ?_⟩; have HO466 := Aside0.mk (Kd.R_lower ho0 (below_size (hB HB))); have HO469 := Aside0.mk (Kd.R_lower ho1 (below_size (hB HB))); have HO472 := Aside0.mk (Kd.S_lower ho2 (below_size (hB HB))); replace BK461 := bb_ BK461 hb; replace HB := bst_ HB hb; clear hb ho0 ho1 ho2; obtain ⟨Ao19, co19, eo19⟩ := Kd.R_slice HO466.out; subst eo19; obtain ⟨Ao20, co20, eo20⟩ := Kd.R_slice HO469.out; subst eo20; obtain ⟨Ao21, co21, eo21⟩ := Kd.S_slice HO472.out; subst eo21) | ((with_reducible refine gate_callee (f := 20) rfl ?_); refine goesL_ (some 23) rfl rfl Try.func20 (by kernel_rfl) rfl #[.agg #[.int .i64 t463, .slice Ao19 t464.length co19, .slice Ao20 t467.length co20, .slice Ao21 t470.length co21], .int .i64 a1, .int .i64 a2] rfl tm_ ?_; (with_reducible refine (spec_CanReach.calls k t463 _ _ t464 _ _ t467 _ _ t470 a1 a2 t473 t474 _ ?side1 ?side2 ?side3 ?side4 ?side5 ?side6 A10.out).mono ?_); (case side1 => exact ca (Kd.R_reads' HO466.out).2.2); (case side2 => exact (Kd.R_reads' HO466.out).2.1); (case side3 => exact ca (Kd.R_reads' HO469.out).2.2); (case side4 => exact (Kd.R_reads' HO469.out).2.1); (case side5 => exact ca (Kd.S_reads' HO472.out).2.2); (case side6 => exact (Kd.S_reads' HO472.out).2.1); rintro e w22 ⟨rfl, hb⟩; refine ⟨_, rfl, ?_⟩; replace HO466 := rb_ HO466 hb; replace HO469 := rb_ HO469 hb; replace HO472 := Aside0.mk (Kd.S_below (sa HO472.out) hb); replace BK461 := bb_ BK461 hb; replace HB := bst_ HB hb; clear hb; have hcz23_0 : w22.cell? ⟨gb461, 0, none⟩ = some (.int .i64 a0_0) := bc_ BK461 0; have hcz23_1 : w22.cell? ⟨gb461, 1, none⟩ = some (.slice A0_1 l0_1.length c0_1) := bc_ BK461 1; have hcz23_2 : w22.cell? ⟨gb461, 2, none⟩ = some (.slice A0_2 l0_2.length c0_2) := bc_ BK461 2; have hcz23_3 : w22.cell? ⟨gb461, 3, none⟩ = some (.slice A0_3 l0_3.length c0_3) := bc_ BK461 3; have hfz23_0 := blk_frozen BK461.out 0; have hfz23_1 := blk_frozen BK461.out 1; have hfz23_2 := blk_frozen BK461.out 2; have hfz23_3 := blk_frozen BK461.out 3) | ((with_reducible refine gate_callee (f := 13) rfl ?_); refine goesL_ (some 27) rfl rfl Try.func13 (by kernel_rfl) rfl #[.agg #[.int .i64 a0_0, .slice A0_1 l0_1.length c0_1, .slice A0_2 l0_2.length c0_2, .slice A0_3 l0_3.length c0_3]] rfl tm_ ?_; (with_reducible refine (laws_toCampus.calls k a0_0 _ _ l0_1 _ _ l0_2 _ _ l0_3 t475 t476 t479 t482 _ ?side1 ?side2 ?side3 ?side4 ?side5 ?side6 A11.out).mono ?_); (case side1 => exact ca (Kd.C_below HR0_1.out HB.out)); (case side2 => exact HC0_1.out); (case side3 => exact ca (Kd.C_below HR0_2.out HB.out)); (case side4 => exact HC0_2.out); (case side5 => exact ca (Kd.C_below HR0_3.out HB.out)); (case side6 => exact HC0_3.out); rintro e w24 ⟨v477, v480, v483, rfl, ho0, ho1, ho2, hb⟩; refine ⟨_, rfl, ?_⟩; have HO478 := Aside0.mk (Kd.R_lower (Kd.R_new' ho0 (rl_ HO466)) (below_size (hB HB))); have HO481 := Aside0.mk (Kd.R_lower (Kd.R_new' ho1 (rl_ HO469)) (below_size (hB HB))); have HO484 := Aside0.mk (Kd.S_lower (Kd.S_new' (Kd.S_new' ho2 (rl_ HO469)) (Kd.S_lt (sa HO472.out))) (below_size (hB HB))); replace HO466 := re_ HO466 ho0 hb; replace HO469 := re_ HO469 ho1 hb; replace HO472 := Aside0.mk (Kd.S_mono (Kd.S_told (Kd.S_told (Kd.S_old (sa HO472.out) hb) (Kd.R_base ho1)) (Kd.S_base ho2)) (fun _ h_ => h_.1)); replace BK461 := bb_ BK461 hb; replace HB := bst_ HB hb; clear hb ho0 ho1 ho2) | ((with_reducible refine gate_dst (N := 10) rfl ?_); refine box_event ?hg (N := 10) ?hd (cs := #[.int .i64 0, .slice none 0 0, .slice none 0 0, .slice none 0 0]) (t := 33) ?hr ?_; (case hd => rfl); (case hg => rfl); (case hr => first | (go_simp; done) | (go_simp; rfl)); intro gb485 hg w25 hbox hb; have BK485 := Aside0.mk (hbox); have GW485 := gw_ hg HB; have GE485 := gw_ hg HB; have NB461_485 := nl_ hg BK461; have NB485_461 := ng_ hg BK461; replace HO466 := rb_ HO466 hb; replace HO469 := rb_ HO469 hb; replace HO472 := Aside0.mk (Kd.S_below (sa HO472.out) hb); replace HO478 := rb_ HO478 hb; replace HO481 := rb_ HO481 hb; replace HO484 := Aside0.mk (Kd.S_below (sa HO484.out) hb); replace BK461 := bb_ BK461 hb; replace HB := bst_ HB hb; clear hb hbox hg; have hnb26 := NB485_461.out; have hnc26 := NB461_485.out; have hcz27_0 : w25.cell? ⟨gb485, 0, none⟩ = some (.int .i64 0) := bc_ BK485 0; have hcz27_1 : w25.cell? ⟨gb485, 1, none⟩ = some (.slice none 0 0) := bc_ BK485 1; have hcz27_2 : w25.cell? ⟨gb485, 2, none⟩ = some (.slice none 0 0) := bc_ BK485 2; have hcz27_3 : w25.cell? ⟨gb485, 3, none⟩ = some (.slice none 0 0) := bc_ BK485 3; have hfz27_0 := blk_frozen BK485.out 0; have hfz27_1 := blk_frozen BK485.out 1; have hfz27_2 := blk_frozen BK485.out 2; have hfz27_3 := blk_frozen BK485.out 3; obtain ⟨Ao28, co28, eo28⟩ := Kd.R_slice HO478.out; subst eo28; obtain ⟨Ao29, co29, eo29⟩ := Kd.R_slice HO481.out; subst eo29; obtain ⟨Ao30, co30, eo30⟩ := Kd.S_slice HO484.out; subst eo30) | ((with_reducible refine gate_callee (f := 21) rfl ?_); refine goesL_ (some 32) rfl rfl Try.func21 (by kernel_rfl) rfl #[.agg #[.int .i64 t475, .slice Ao28 t476.length co28, .slice Ao29 t479.length co29, .slice Ao30 t482.length co30], .int .i64 a1, .int .i64 a2] rfl tm_ ?_; (with_reducible refine (impl_CanReach.calls k t475 _ _ t476 _ _ t479 _ _ t482 a1 a2 t486 t487 _ ?side1 ?side2 ?side3 ?side4 ?side5 ?side6 A12.out).mono ?_); (case side1 => exact rr_ (fm4_ HO478 BK485)); (case side2 => exact (Kd.R_reads' HO478.out).2.1); (case side3 => exact rr_ (fm4_ HO481 BK485)); (case side4 => exact (Kd.R_reads' HO481.out).2.1); (case side5 => refine (Kd.S_reads' (e := 130) (base := w.heap.size) (ok := fun k_ => ((no_ (.slice Ao29 t479.length co29) k_ ∧ no_ (.slice Ao20 t467.length co20) k_) ∧ no_ (.slice Ao21 t470.length co21) k_)) (n := t482.length) (c := co30) ?_).2.2; exact (by (with_reducible repeat (first | apply Kd.S_alloc | apply Kd.S_drewN | apply Kd.S_drew)); exact (Kd.S_mono (Kd.S_far (p := ⟨gb485, 3, none⟩) (Kd.S_far (p := ⟨gb485, 2, none⟩) (Kd.S_far (p := ⟨gb485, 1, none⟩) (Kd.S_far (p := ⟨gb485, 0, none⟩) (Kd.S_types HO484.out BK485.out (by decide)) (fun _ hk => hk.2) (.int .i64 t475)) (fun _ hk => hk.2) (.slice Ao28 t476.length co28)) (fun _ hk => hk.2) (.slice Ao29 t479.length co29)) (fun _ hk => hk.2) (.slice Ao30 t482.length co30)) (fun _ h_ => h_.1)))); (case side6 => exact (Kd.S_reads' HO484.out).2.1); rintro e w31 ⟨rfl, hb⟩; refine ⟨_, rfl, ?_⟩; replace HO466 := rb4_ HO466 BK485 hb; replace HO469 := rb4_ HO469 BK485 hb; replace HO472 := Aside0.mk (Kd.S_below (by (with_reducible repeat (first | apply Kd.S_alloc | apply Kd.S_drewN | apply Kd.S_drew)); exact (Kd.S_mono (Kd.S_far (p := ⟨gb485, 3, none⟩) (Kd.S_far (p := ⟨gb485, 2, none⟩) (Kd.S_far (p := ⟨gb485, 1, none⟩) (Kd.S_far (p := ⟨gb485, 0, none⟩) (Kd.S_types HO472.out BK485.out (by decide)) (fun _ hk => hk.2) (.int .i64 t475)) (fun _ hk => hk.2) (.slice Ao28 t476.length co28)) (fun _ hk => hk.2) (.slice Ao29 t479.length co29)) (fun _ hk => hk.2) (.slice Ao30 t482.length co30)) (fun _ h_ => h_.1))) hb); replace HO478 := rb4_ HO478 BK485 hb; replace HO481 := rb4_ HO481 BK485 hb; replace HO484 := Aside0.mk (Kd.S_below (by (with_reducible repeat (first | apply Kd.S_alloc | apply Kd.S_drewN | apply Kd.S_drew)); exact (Kd.S_mono (Kd.S_far (p := ⟨gb485, 3, none⟩) (Kd.S_far (p := ⟨gb485, 2, none⟩) (Kd.S_far (p := ⟨gb485, 1, none⟩) (Kd.S_far (p := ⟨gb485, 0, none⟩) (Kd.S_types HO484.out BK485.out (by decide)) (fun _ hk => hk.2) (.int .i64 t475)) (fun _ hk => hk.2) (.slice Ao28 t476.length co28)) (fun _ hk => hk.2) (.slice Ao29 t479.length co29)) (fun _ hk => hk.2) (.slice Ao30 t482.length co30)) (fun _ h_ => h_.1))) hb); replace BK461 := Aside0.mk (blk_below (bx BK461) hb); replace BK485 := Aside0.mk (blk_below (g := gb485) (o := .cells #[.int .i64 t475, .slice Ao28 t476.length co28, .slice Ao29 t479.length co29, .slice Ao30 t482.length co30] 33 (0, 0)) (by (with_reducible repeat (first | refine blk_drewN ?_ _ | refine blk_drew ?_ | refine blk_alloc ?_ _)); refine blk_put (cs := #[.int .i64 t475, .slice Ao28 t476.length co28, .slice Ao29 t479.length co29, .slice none 0 0]) ?_ 3 _ rfl; (with_reducible repeat (first | refine blk_drewN ?_ _ | refine blk_drew ?_ | refine blk_alloc ?_ _)); refine blk_put (cs := #[.int .i64 t475, .slice Ao28 t476.length co28, .slice none 0 0, .slice none 0 0]) ?_ 2 _ rfl; (with_reducible repeat (first | refine blk_drewN ?_ _ | refine blk_drew ?_ | refine blk_alloc ?_ _)); refine blk_put (cs := #[.int .i64 t475, .slice none 0 0, .slice none 0 0, .slice none 0 0]) ?_ 1 _ rfl; (with_reducible repeat (first | refine blk_drewN ?_ _ | refine blk_drew ?_ | refine blk_alloc ?_ _)); refine blk_put (cs := #[.int .i64 0, .slice none 0 0, .slice none 0 0, .slice none 0 0]) ?_ 0 _ rfl; (with_reducible repeat (first | refine blk_drewN ?_ _ | refine blk_drew ?_ | refine blk_alloc ?_ _)); exact BK485.out) hb); replace HB := bst_ HB hb; clear hb))
 (try simp only [Act.put, List.setIfInBounds_toArray, List.set_cons_zero, List.set_cons_succ])
 go_cut [42] (fun v42 wc => ∃ (kq : Nat) (x42_12 : Bool), v42 = .bool x42_12 ∧ Aside0 (laws_FnExactCanReach.j0 kq x42_12 a0_0 l0_1 l0_2 l0_3 t475 t476 t479 t482 = some r) ∧ Aside0 (kq ≤ k) ∧ Aside0 (Kd.R k86 86 wc w.heap.size (fun _ => True) (.slice Ao28 t476.length co28) t476) ∧ Aside0 (Kd.R (Kd.int .i64) 3 wc w.heap.size (fun _ => True) (.slice Ao29 t479.length co29) t479) ∧ Aside0 (Kd.S k130 130 wc w.heap.size (fun k_ => no_ (.slice Ao29 t479.length co29) k_) (.slice Ao30 t482.length co30) t482) ∧ Aside0 (wc.heap[gb461]? = some (.cells #[.int .i64 a0_0, (.slice A0_1 l0_1.length c0_1), (.slice A0_2 l0_2.length c0_2), (.slice A0_3 l0_3.length c0_3)] 26 (0, 0))) ∧ Aside0 (wc.heap[gb485]? = some (.cells #[.int .i64 t475, (.slice Ao28 t476.length co28), (.slice Ao29 t479.length co29), (.slice Ao30 t482.length co30)] 33 (0, 0))) ∧ Aside0 (Below w.heap.size w wc))
 case first =>
  have H := HC13.out
  clear HC13
  by_cases c32 : (t486 != t473) = true
  rotate_left
  ·rw [if_neg c32] at H
   have c32b0 : (t486 != t473) = false := by simpa using c32
   (try (have c32b1 : decide (t486 = t473) = true := by simpa using c32))
   (try (have c32b2 : (t486 == t473) = true := by simpa using c32))
   clear c32
   (first | rw [c32b0] | (simp only [i64_w, i32_w]; rw [c32b0]) | skip)
   have H' := Aside0.mk H
   clear H
   go_wp2
   go_meet
   case rel => exact ⟨_, ((t487 != t474)), (by first | rfl | (simp; done) | (simp [*]; done)), H', ⟨by first | omega | exact Nat.le_refl _⟩, rm_ HO478 (fun _ hk => trivial), rm_ HO481 (fun _ hk => trivial), ⟨by (with_reducible repeat (first | apply Kd.S_alloc | apply Kd.S_drewN | apply Kd.S_drew)); exact Kd.S_mono HO484.out (fun _ hk => hk.1.1)⟩, ⟨by (with_reducible repeat (first | refine blk_drewN ?_ _ | refine blk_drew ?_ | refine blk_alloc ?_ _)); exact BK461.out⟩, ⟨by (with_reducible repeat (first | refine blk_drewN ?_ _ | refine blk_drew ?_ | refine blk_alloc ?_ _)); exact BK485.out⟩, ⟨hB HB⟩⟩
  rw [if_pos c32] at H
  have c32b0 : (t486 != t473) = true := c32
  (try (have c32b1 : decide (t486 = t473) = false := by simpa using c32))
  (try (have c32b2 : (t486 == t473) = false := by simpa using c32))
  (try (have c32b3 : ¬ (t486 = t473) := by simpa using c32))
  clear c32
  (first | rw [c32b0] | (simp only [i64_w, i32_w]; rw [c32b0]) | skip)
  have H' := Aside0.mk H
  clear H
  go_wp2
  go_meet
  case rel => exact ⟨_, (true), (by first | rfl | (simp; done) | (simp [*]; done)), H', ⟨by first | omega | exact Nat.le_refl _⟩, rm_ HO478 (fun _ hk => trivial), rm_ HO481 (fun _ hk => trivial), ⟨by (with_reducible repeat (first | apply Kd.S_alloc | apply Kd.S_drewN | apply Kd.S_drew)); exact Kd.S_mono HO484.out (fun _ hk => hk.1.1)⟩, ⟨by (with_reducible repeat (first | refine blk_drewN ?_ _ | refine blk_drew ?_ | refine blk_alloc ?_ _)); exact BK461.out⟩, ⟨by (with_reducible repeat (first | refine blk_drewN ?_ _ | refine blk_drew ?_ | refine blk_alloc ?_ _)); exact BK485.out⟩, ⟨hB HB⟩⟩
 case rest =>
  clear HC13
  try clear c5
  try clear c5b0
  try clear hcz15_0
  try clear hcz15_1
  try clear hcz15_2
  try clear hcz15_3
  try clear hcz17_0
  try clear hcz17_1
  try clear hcz17_2
  try clear hcz17_3
  try clear hcz23_0
  try clear hcz23_1
  try clear hcz23_2
  try clear hcz23_3
  try clear hcz27_0
  try clear hcz27_1
  try clear hcz27_2
  try clear hcz27_3
  try clear hfz15_0
  try clear hfz15_1
  try clear hfz15_2
  try clear hfz15_3
  try clear hfz17_0
  try clear hfz17_1
  try clear hfz17_2
  try clear hfz17_3
  try clear hfz23_0
  try clear hfz23_1
  try clear hfz23_2
  try clear hfz23_3
  try clear hfz27_0
  try clear hfz27_1
  try clear hfz27_2
  try clear hfz27_3
  obtain ⟨kq, x42_12, rfl, HA, HJ12, HO_486001, HO_486002, HO_486003, BK461, BK485, HB⟩ := hcut
  cases kq with
  | zero => exact absurd HA.out (by simp [laws_FnExactCanReach.j0])
  | succ kj12 =>
   have H := HA.out
   clear HA
   simp only [laws_FnExactCanReach.j0] at H
   by_cases c33 : x42_12 = true
   ·subst c33
    rw [if_pos rfl] at H
    obtain rfl := Option.some.inj H
    go_wp2
    go_ret
    exact ⟨by first | rfl | (simp [errW_none, errW_some] <;> rfl) | (simp [*, errW_none, errW_some] <;> rfl), by repeat (first | (with_reducible first | exact HB.out | apply below_alloc | apply pw_below_drewN | apply below_drew1 | refine below_set ?_ GE461.out | refine below_set ?_ GE485.out) | exact HB.out)⟩
   replace c33 := Bool.eq_false_iff.mpr c33
   subst c33
   rw [if_neg (show ¬ (false = true) by decide)] at H
   replace H := Option.bind_eq_some_iff.mp H
   obtain ⟨⟨t488, t489, t492, t495⟩, A340, H⟩ := H
   replace H : ((laws_eqCampus.f kj12 t475 t476 t479 t482 t488 t489 t492 t495).bind fun t498 => (if t498 = true then (some true) else (some false))) = some r := H
   have A34 := Aside0.mk A340
   clear A340
   replace H := Option.bind_eq_some_iff.mp H
   obtain ⟨t498, A350, H⟩ := H
   replace H : (if t498 = true then (some true) else (some false)) = some r := H
   have A35 := Aside0.mk A350
   clear A350
   by_cases c36 : t498 = true
   ·subst c36
    rw [if_pos rfl] at H
    obtain rfl := Option.some.inj H
    try go_wp2
    replace HO_486001 := rd_ HO_486001
    replace HO_486002 := rd_ HO_486002
    replace HO_486003 := Aside0.mk (Kd.S_drew HO_486003.out)
    replace BK461 := bd_ BK461
    replace BK485 := bd_ BK485
    replace HB := Aside0.mk (below_drew1 HB.out)
    refine start_ (n := 5) (S := fun w' => w'.cell? ⟨gb485, 0, none⟩ = some (.int .i64 t475) ∧ w'.cell? ⟨gb485, 1, none⟩ = some (.slice Ao28 t476.length co28) ∧ w'.cell? ⟨gb485, 2, none⟩ = some (.slice Ao29 t479.length co29) ∧ w'.cell? ⟨gb485, 3, none⟩ = some (.slice Ao30 t482.length co30) ∧ w'.cell? ⟨gb461, 0, none⟩ = some (.int .i64 a0_0) ∧ w'.cell? ⟨gb461, 1, none⟩ = some (.slice A0_1 l0_1.length c0_1) ∧ w'.cell? ⟨gb461, 2, none⟩ = some (.slice A0_2 l0_2.length c0_2) ∧ w'.cell? ⟨gb461, 3, none⟩ = some (.slice A0_3 l0_3.length c0_3)) (ds := []) (bs 5 0) (by kernel_rfl) rfl rfl ⟨bc_ BK485 0, bc_ BK485 1, bc_ BK485 2, bc_ BK485 3, bc_ BK461 0, bc_ BK461 1, bc_ BK461 2, bc_ BK461 3⟩ (fun hHeld => ?_)
    generalize wc.drew = w37 at HO_486001 HO_486002 HO_486003 BK461 BK485 HB hHeld ⊢
    refine take_ (i := 0) (N := some 43) (v := ?_) (a' := ?_) (bs 5 1) rfl rfl (by kernel_rfl) (fun _ _ _ h => h) (Or.inl ⟨by rfl, ?_⟩) hHeld ?_ ?_
    rotate_left
    ·rintro w' ⟨s0, s1, s2, s3, s4, s5, s6, s7⟩
     go_simp
     with_reducible rfl
    rotate_left
    ·simp only [Act.put, List.setIfInBounds_toArray, List.set_cons_zero, List.set_cons_succ, i64_w, i32_w]
     rfl
    refine take_ (i := 1) (N := some 44) (v := ?_) (a' := ?_) (bs 5 3) rfl rfl (by kernel_rfl) (fun _ _ _ h => h) (Or.inl ⟨by rfl, ?_⟩) hHeld ?_ ?_
    rotate_left
    ·rintro w' ⟨s0, s1, s2, s3, s4, s5, s6, s7⟩
     go_simp
     with_reducible rfl
    rotate_left
    ·simp only [Act.put, List.setIfInBounds_toArray, List.set_cons_zero, List.set_cons_succ, i64_w, i32_w]
     rfl
    refine one_ (i := 2) (N := some 45) (bs 5 7) rfl rfl (by kernel_rfl) (by decide) (fun K hK => ?_)
    refine goes_ Try.func13 (by kernel_rfl) rfl #[.agg #[.int .i64 a0_0, .slice A0_1 l0_1.length c0_1, .slice A0_2 l0_2.length c0_2, .slice A0_3 l0_3.length c0_3]] (by rfl) rfl rfl tm_ ?_
    with_reducible refine (laws_toCampus.calls kj12 a0_0 _ _ l0_1 _ _ l0_2 _ _ l0_3 t488 t489 t492 t495 _ ?side1 ?side2 ?side3 ?side4 ?side5 ?side6 A34.out).mono ?_
    (case side1 => exact ca (Kd.C_below HR0_1.out HB.out))
    (case side2 => exact HC0_1.out)
    (case side3 => exact ca (Kd.C_below HR0_2.out HB.out))
    (case side4 => exact HC0_2.out)
    (case side5 => exact ca (Kd.C_below HR0_3.out HB.out))
    (case side6 => exact HC0_3.out)
    rintro e w38 ⟨v490, v493, v496, rfl, ho0, ho1, ho2, hb⟩
    refine ⟨_, rfl, ?_⟩
    have HO491 := Aside0.mk (Kd.R_lower (Kd.R_new' ho0 (rl_ HO_486001)) (below_size (hB HB)))
    have HO494 := Aside0.mk (Kd.R_lower (Kd.R_new' ho1 (rl_ HO_486002)) (below_size (hB HB)))
    have HO497 := Aside0.mk (Kd.S_lower (Kd.S_new' (Kd.S_new' ho2 (rl_ HO_486002)) (Kd.S_lt (sa HO_486003.out))) (below_size (hB HB)))
    replace HO_486001 := re_ HO_486001 ho0 hb
    replace HO_486002 := re_ HO_486002 ho1 hb
    replace HO_486003 := Aside0.mk (Kd.S_mono (Kd.S_told (Kd.S_told (Kd.S_old (sa HO_486003.out) hb) (Kd.R_base ho1)) (Kd.S_base ho2)) (fun _ h_ => h_.1))
    replace BK461 := bb_ BK461 hb
    replace BK485 := bb_ BK485 hb
    replace HB := bst_ HB hb
    clear hb ho0 ho1 ho2
    obtain ⟨Ao39, co39, eo39⟩ := Kd.R_slice HO491.out
    subst eo39
    obtain ⟨Ao40, co40, eo40⟩ := Kd.R_slice HO494.out
    subst eo40
    obtain ⟨Ao41, co41, eo41⟩ := Kd.S_slice HO497.out
    subst eo41
    refine hK.out _ _ ⟨bc_ BK485 0, bc_ BK485 1, bc_ BK485 2, bc_ BK485 3, bc_ BK461 0, bc_ BK461 1, bc_ BK461 2, bc_ BK461 3⟩ (fun hHeld => ?_)
    clear hK K
    refine nm_ 45 ?_
    refine one_ (i := 3) (N := some 46) (bs 5 15) rfl rfl (by kernel_rfl) (by decide) (fun K hK => ?_)
    refine goes_ Try.func16 (by kernel_rfl) rfl #[.agg #[.int .i64 t475, .slice Ao28 t476.length co28, .slice Ao29 t479.length co29, .slice Ao30 t482.length co30], .agg #[.int .i64 t488, .slice Ao39 t489.length co39, .slice Ao40 t492.length co40, .slice Ao41 t495.length co41]] (by rfl) rfl rfl tm_ ?_
    with_reducible refine (laws_eqCampus.calls kj12 t475 _ _ t476 _ _ t479 _ _ t482 t488 _ _ t489 _ _ t492 _ _ t495 true _ ?side1 ?side2 ?side3 ?side4 ?side5 ?side6 ?side7 ?side8 ?side9 ?side10 ?side11 ?side12 A35.out).mono ?_
    (case side1 => exact ca (Kd.R_reads' HO_486001.out).2.2)
    (case side2 => exact (Kd.R_reads' HO_486001.out).2.1)
    (case side3 => exact ca (Kd.R_reads' HO_486002.out).2.2)
    (case side4 => exact (Kd.R_reads' HO_486002.out).2.1)
    (case side5 => exact ca (Kd.S_reads' HO_486003.out).2.2)
    (case side6 => exact (Kd.S_reads' HO_486003.out).2.1)
    (case side7 => exact ca (Kd.R_reads' HO491.out).2.2)
    (case side8 => exact (Kd.R_reads' HO491.out).2.1)
    (case side9 => exact ca (Kd.R_reads' HO494.out).2.2)
    (case side10 => exact (Kd.R_reads' HO494.out).2.1)
    (case side11 => exact ca (Kd.S_reads' HO497.out).2.2)
    (case side12 => exact (Kd.S_reads' HO497.out).2.1)
    rintro e w42 ⟨rfl, hb⟩
    refine ⟨_, rfl, ?_⟩
    replace HO_486001 := rb_ HO_486001 hb
    replace HO_486002 := rb_ HO_486002 hb
    replace HO_486003 := Aside0.mk (Kd.S_below (sa HO_486003.out) hb)
    replace HO491 := rb_ HO491 hb
    replace HO494 := rb_ HO494 hb
    replace HO497 := Aside0.mk (Kd.S_below (sa HO497.out) hb)
    replace BK461 := bb_ BK461 hb
    replace BK485 := bb_ BK485 hb
    replace HB := bst_ HB hb
    clear hb
    refine hK.out _ _ ⟨bc_ BK485 0, bc_ BK485 1, bc_ BK485 2, bc_ BK485 3, bc_ BK461 0, bc_ BK461 1, bc_ BK461 2, bc_ BK461 3⟩ (fun hHeld => ?_)
    clear hK K
    refine nm_ 46 ?_
    refine pure_ (i := 4) (N := some 47) (v := ?_) (a' := ?_) (bs 5 31) rfl rfl (by kernel_rfl) (fun _ _ _ h => h) (Or.inl ⟨by rfl, ?_⟩) ?_ ?_
    rotate_left
    ·intro w'
     go_simp
     with_reducible rfl
    rotate_left
    ·simp only [Act.put, List.setIfInBounds_toArray, List.set_cons_zero, List.set_cons_succ, i64_w, i32_w]
     rfl
    refine done_ (by kernel_rfl) ?_
    try go_wp2
    go_ret
    exact ⟨by first | rfl | (simp [errW_none, errW_some] <;> rfl) | (simp [*, errW_none, errW_some] <;> rfl), by repeat (first | (with_reducible first | exact HB.out | apply below_alloc | apply pw_below_drewN | apply below_drew1 | refine below_set ?_ GE461.out | refine below_set ?_ GE485.out) | exact HB.out)⟩
   replace c36 := Bool.eq_false_iff.mpr c36
   subst c36
   rw [if_neg (show ¬ (false = true) by decide)] at H
   obtain rfl := Option.some.inj H
   try go_wp2
   replace HO_486001 := rd_ HO_486001
   replace HO_486002 := rd_ HO_486002
   replace HO_486003 := Aside0.mk (Kd.S_drew HO_486003.out)
   replace BK461 := bd_ BK461
   replace BK485 := bd_ BK485
   replace HB := Aside0.mk (below_drew1 HB.out)
   refine start_ (n := 5) (S := fun w' => w'.cell? ⟨gb485, 0, none⟩ = some (.int .i64 t475) ∧ w'.cell? ⟨gb485, 1, none⟩ = some (.slice Ao28 t476.length co28) ∧ w'.cell? ⟨gb485, 2, none⟩ = some (.slice Ao29 t479.length co29) ∧ w'.cell? ⟨gb485, 3, none⟩ = some (.slice Ao30 t482.length co30) ∧ w'.cell? ⟨gb461, 0, none⟩ = some (.int .i64 a0_0) ∧ w'.cell? ⟨gb461, 1, none⟩ = some (.slice A0_1 l0_1.length c0_1) ∧ w'.cell? ⟨gb461, 2, none⟩ = some (.slice A0_2 l0_2.length c0_2) ∧ w'.cell? ⟨gb461, 3, none⟩ = some (.slice A0_3 l0_3.length c0_3)) (ds := []) (bs 5 0) (by kernel_rfl) rfl rfl ⟨bc_ BK485 0, bc_ BK485 1, bc_ BK485 2, bc_ BK485 3, bc_ BK461 0, bc_ BK461 1, bc_ BK461 2, bc_ BK461 3⟩ (fun hHeld => ?_)
   generalize wc.drew = w43 at HO_486001 HO_486002 HO_486003 BK461 BK485 HB hHeld ⊢
   refine take_ (i := 0) (N := some 43) (v := ?_) (a' := ?_) (bs 5 1) rfl rfl (by kernel_rfl) (fun _ _ _ h => h) (Or.inl ⟨by rfl, ?_⟩) hHeld ?_ ?_
   rotate_left
   ·rintro w' ⟨s0, s1, s2, s3, s4, s5, s6, s7⟩
    go_simp
    with_reducible rfl
   rotate_left
   ·simp only [Act.put, List.setIfInBounds_toArray, List.set_cons_zero, List.set_cons_succ, i64_w, i32_w]
    rfl
   refine take_ (i := 1) (N := some 44) (v := ?_) (a' := ?_) (bs 5 3) rfl rfl (by kernel_rfl) (fun _ _ _ h => h) (Or.inl ⟨by rfl, ?_⟩) hHeld ?_ ?_
   rotate_left
   ·rintro w' ⟨s0, s1, s2, s3, s4, s5, s6, s7⟩
    go_simp
    with_reducible rfl
   rotate_left
   ·simp only [Act.put, List.setIfInBounds_toArray, List.set_cons_zero, List.set_cons_succ, i64_w, i32_w]
    rfl
   refine one_ (i := 2) (N := some 45) (bs 5 7) rfl rfl (by kernel_rfl) (by decide) (fun K hK => ?_)
   refine goes_ Try.func13 (by kernel_rfl) rfl #[.agg #[.int .i64 a0_0, .slice A0_1 l0_1.length c0_1, .slice A0_2 l0_2.length c0_2, .slice A0_3 l0_3.length c0_3]] (by rfl) rfl rfl tm_ ?_
   with_reducible refine (laws_toCampus.calls kj12 a0_0 _ _ l0_1 _ _ l0_2 _ _ l0_3 t488 t489 t492 t495 _ ?side1 ?side2 ?side3 ?side4 ?side5 ?side6 A34.out).mono ?_
   (case side1 => exact ca (Kd.C_below HR0_1.out HB.out))
   (case side2 => exact HC0_1.out)
   (case side3 => exact ca (Kd.C_below HR0_2.out HB.out))
   (case side4 => exact HC0_2.out)
   (case side5 => exact ca (Kd.C_below HR0_3.out HB.out))
   (case side6 => exact HC0_3.out)
   rintro e w44 ⟨v490, v493, v496, rfl, ho0, ho1, ho2, hb⟩
   refine ⟨_, rfl, ?_⟩
   have HO491 := Aside0.mk (Kd.R_lower (Kd.R_new' ho0 (rl_ HO_486001)) (below_size (hB HB)))
   have HO494 := Aside0.mk (Kd.R_lower (Kd.R_new' ho1 (rl_ HO_486002)) (below_size (hB HB)))
   have HO497 := Aside0.mk (Kd.S_lower (Kd.S_new' (Kd.S_new' ho2 (rl_ HO_486002)) (Kd.S_lt (sa HO_486003.out))) (below_size (hB HB)))
   replace HO_486001 := re_ HO_486001 ho0 hb
   replace HO_486002 := re_ HO_486002 ho1 hb
   replace HO_486003 := Aside0.mk (Kd.S_mono (Kd.S_told (Kd.S_told (Kd.S_old (sa HO_486003.out) hb) (Kd.R_base ho1)) (Kd.S_base ho2)) (fun _ h_ => h_.1))
   replace BK461 := bb_ BK461 hb
   replace BK485 := bb_ BK485 hb
   replace HB := bst_ HB hb
   clear hb ho0 ho1 ho2
   obtain ⟨Ao45, co45, eo45⟩ := Kd.R_slice HO491.out
   subst eo45
   obtain ⟨Ao46, co46, eo46⟩ := Kd.R_slice HO494.out
   subst eo46
   obtain ⟨Ao47, co47, eo47⟩ := Kd.S_slice HO497.out
   subst eo47
   refine hK.out _ _ ⟨bc_ BK485 0, bc_ BK485 1, bc_ BK485 2, bc_ BK485 3, bc_ BK461 0, bc_ BK461 1, bc_ BK461 2, bc_ BK461 3⟩ (fun hHeld => ?_)
   clear hK K
   refine nm_ 45 ?_
   refine one_ (i := 3) (N := some 46) (bs 5 15) rfl rfl (by kernel_rfl) (by decide) (fun K hK => ?_)
   refine goes_ Try.func16 (by kernel_rfl) rfl #[.agg #[.int .i64 t475, .slice Ao28 t476.length co28, .slice Ao29 t479.length co29, .slice Ao30 t482.length co30], .agg #[.int .i64 t488, .slice Ao45 t489.length co45, .slice Ao46 t492.length co46, .slice Ao47 t495.length co47]] (by rfl) rfl rfl tm_ ?_
   with_reducible refine (laws_eqCampus.calls kj12 t475 _ _ t476 _ _ t479 _ _ t482 t488 _ _ t489 _ _ t492 _ _ t495 false _ ?side1 ?side2 ?side3 ?side4 ?side5 ?side6 ?side7 ?side8 ?side9 ?side10 ?side11 ?side12 A35.out).mono ?_
   (case side1 => exact ca (Kd.R_reads' HO_486001.out).2.2)
   (case side2 => exact (Kd.R_reads' HO_486001.out).2.1)
   (case side3 => exact ca (Kd.R_reads' HO_486002.out).2.2)
   (case side4 => exact (Kd.R_reads' HO_486002.out).2.1)
   (case side5 => exact ca (Kd.S_reads' HO_486003.out).2.2)
   (case side6 => exact (Kd.S_reads' HO_486003.out).2.1)
   (case side7 => exact ca (Kd.R_reads' HO491.out).2.2)
   (case side8 => exact (Kd.R_reads' HO491.out).2.1)
   (case side9 => exact ca (Kd.R_reads' HO494.out).2.2)
   (case side10 => exact (Kd.R_reads' HO494.out).2.1)
   (case side11 => exact ca (Kd.S_reads' HO497.out).2.2)
   (case side12 => exact (Kd.S_reads' HO497.out).2.1)
   rintro e w48 ⟨rfl, hb⟩
   refine ⟨_, rfl, ?_⟩
   replace HO_486001 := rb_ HO_486001 hb
   replace HO_486002 := rb_ HO_486002 hb
   replace HO_486003 := Aside0.mk (Kd.S_below (sa HO_486003.out) hb)
   replace HO491 := rb_ HO491 hb
   replace HO494 := rb_ HO494 hb
   replace HO497 := Aside0.mk (Kd.S_below (sa HO497.out) hb)
   replace BK461 := bb_ BK461 hb
   replace BK485 := bb_ BK485 hb
   replace HB := bst_ HB hb
   clear hb
   refine hK.out _ _ ⟨bc_ BK485 0, bc_ BK485 1, bc_ BK485 2, bc_ BK485 3, bc_ BK461 0, bc_ BK461 1, bc_ BK461 2, bc_ BK461 3⟩ (fun hHeld => ?_)
   clear hK K
   refine nm_ 46 ?_
   refine pure_ (i := 4) (N := some 47) (v := ?_) (a' := ?_) (bs 5 31) rfl rfl (by kernel_rfl) (fun _ _ _ h => h) (Or.inl ⟨by rfl, ?_⟩) ?_ ?_
   rotate_left
   ·intro w'
    go_simp
    with_reducible rfl
   rotate_left
   ·simp only [Act.put, List.setIfInBounds_toArray, List.set_cons_zero, List.set_cons_succ, i64_w, i32_w]
    rfl
   refine done_ (by kernel_rfl) ?_
   try go_wp2
   go_ret
   exact ⟨by first | rfl | (simp [errW_none, errW_some] <;> rfl) | (simp [*, errW_none, errW_some] <;> rfl), by repeat (first | (with_reducible first | exact HB.out | apply below_alloc | apply pw_below_drewN | apply below_drew1 | refine below_set ?_ GE461.out | refine below_set ?_ GE485.out) | exact HB.out)⟩

end Go.Proofs.Ytpohlcjkabojcaa.P
