import Derived.Test.YtolncjkfcmbieaaF0
import Derived.Test.YtolncjkfcmbieaaF1
import Derived.Test.YtolncjkfcmbieaaF2
import Derived.Test.YtolncjkfcmbieaaF3
namespace Go.Proofs.Ytolncjkfcmbieaa.P
open Go.RowKit Go.Proofs.YtolncjkfcmbieaaW.PrintWords Go.Proofs.YtolncjkfcmbieaaW.PrintLast Go.Proofs.YtolncjkfcmbieaaW.PrintMore
attribute [local go_sem] max2_int min2_int max_two min_two max_three min_three max_four min_four   -- for this text's walks alone
set_option linter.unusedVariables false
set_option linter.unusedSimpArgs false

def impl_wanted.l0 : Nat → List Int → List Int → List (S162) → List (S162) → Int → Int → Option ((List (S162)))
 | 0, _, _, _, _, _, _ => none
 | k + 1, x0, x2, x7, x12, x13, x14 => if x14 < x13 then (if 0 ≤ x14 then (if x14 < (x12.length : Int) then ((impl_behind.f k x0 ((rd_T162 x12 x14).f0) ((rd_T162 x12 x14).f1)).bind fun t404 => ((slices_ContainsFunc_int_int.f t404 x2).bind fun t407 => (if t407 = true then (if x7.length < 8796093022208 then (impl_wanted.l0 k x0 x2 (x7 ++ [(⟨(rd_T162 x12 x14).f0, (rd_T162 x12 x14).f1⟩ : S162)]) x12 x13 (wrap64 (x14 + 1))) else (none)) else (impl_wanted.l0 k x0 x2 x7 x12 x13 (wrap64 (x14 + 1)))))) else (none)) else (none)) else (some x7)
def impl_wanted.f (k : Nat) (l0 : List Int) (a1 : Int) (l2 : List Int) : Option ((List (S162))) := (impl_spread.f k l0 a1).bind fun t399 => (impl_wanted.l0 k l0 l2 ([] : List (S162)) t399 (t399.length : Int) 0)
theorem impl_wanted.mono_l : ∀ k, (∀ y0 y1 y2 y3 y4 y5, LeO (impl_wanted.l0 k y0 y1 y2 y3 y4 y5) (impl_wanted.l0 (k + 1) y0 y1 y2 y3 y4 y5))
 | 0 => fun _ _ _ _ _ _ r h => by simp [impl_wanted.l0] at h
 | k + 1 => by
  have ih0 := impl_wanted.mono_l k
  ·intro y0 y1 y2 y3 y4 y5
   unfold impl_wanted.l0
   repeat' first
   | (with_reducible exact ih0 _ _ _ _ _ _)
   | (with_reducible exact impl_behind.mono _ _ _ _)
   | (with_reducible exact impl_spread.mono _ _ _)
   | (with_reducible exact LeO.refl _)
   | (with_reducible exact LeO.none _)
   | (with_reducible refine LeO.ite ?_ ?_)
   | (with_reducible refine LeO.bind ?_ (fun _ => ?_))
theorem impl_wanted.mono : ∀ a0 a1 a2 k, LeO (impl_wanted.f k a0 a1 a2) (impl_wanted.f (k + 1) a0 a1 a2) := by
 intro a0 a1 a2 k
 have ih0 := impl_wanted.mono_l k
 unfold impl_wanted.f
 repeat' first
   | (with_reducible exact ih0 _ _ _ _ _ _)
   | (with_reducible exact impl_behind.mono _ _ _ _)
   | (with_reducible exact impl_spread.mono _ _ _)
   | (with_reducible exact LeO.refl _)
   | (with_reducible exact LeO.none _)
   | (with_reducible refine LeO.ite ?_ ?_)
   | (with_reducible refine LeO.bind ?_ (fun _ => ?_))
set_option maxHeartbeats 8000000 in
set_option maxRecDepth 100000 in
theorem impl_wanted.calls (k : Nat) (A0 : Option Addr) (c0 : Nat) (l0 : List Int) (a1 : Int) (A2 : Option Addr) (c2 : Nat) (l2 : List Int) (r : List (S162)) (w : World) (hr0 : Kd.C (Kd.int .i64) w A0 l0.length l0) (hc0 : l0.length ≤ c0) (hr2 : Kd.C (Kd.int .i64) w A2 l2.length l2) (hc2 : l2.length ≤ c2) (h : impl_wanted.f k l0 a1 l2 = some r) :
  Calls Try.prog 188 #[.slice A0 l0.length c0, .int .i64 a1, .slice A2 l2.length c2] w fun e w' => ∃ v0_ : Value, e = .returned (v0_) ∧ Kd.R k162 162 w' w.heap.size (fun _ => True) v0_ r ∧ Below w.heap.size w w' := by
 have hu162 := Try.underlying162
 have HR0 := Aside0.mk hr0
 have HC0 := Aside0.mk hc0
 clear hr0 hc0
 have HR2 := Aside0.mk hr2
 have HC2 := Aside0.mk hc2
 clear hr2 hc2
 have HB := Aside0.mk (Below.refl w.heap.size w)
 have H : ((impl_spread.f k l0 a1).bind fun t399 => (impl_wanted.l0 k l0 l2 ([] : List (S162)) t399 (t399.length : Int) 0)) = some r := h
 clear h
 replace H := Option.bind_eq_some_iff.mp H
 obtain ⟨t399, A40, H⟩ := H
 replace H : (impl_wanted.l0 k l0 l2 ([] : List (S162)) t399 (t399.length : Int) 0) = some r := H
 have A4 := Aside0.mk A40
 clear A40
 have H' := Aside0.mk H
 clear H
 go_enter Try.func188, Try.ntmps188
 go_wp2_with (first | ((with_reducible refine gate_dst (N := 5) rfl ?_); refine box_event ?hg (N := 5) ?hd (cs := #[.slice A2 l2.length c2]) (t := 24) ?hr ?_; (case hd => rfl); (case hg => rfl); (case hr => first | (go_simp; done) | (go_simp; rfl)); intro gbB hg wB hbox hb; have BKB := Aside0.mk (hbox); replace HB := bst_ HB hb; clear hb hbox hg) | ((with_reducible refine gate_callee (f := 147) rfl ?_); refine goesL_ (some 12) rfl rfl Try.func147 (by kernel_rfl) rfl #[.slice A0 l0.length c0, .int .i64 a1] rfl tm_ ?_; (with_reducible refine (impl_spread.calls k _ _ l0 a1 t399 _ ?side1 ?side2 A4.out).mono ?_); (case side1 => exact Kd.C_below HR0.out (hB HB)); (case side2 => exact HC0.out); rintro e w5 ⟨v400, rfl, ho0, hb⟩; refine ⟨_, rfl, ?_⟩; have HO401 := Aside0.mk (Kd.R_lower ho0 (below_size (hB HB))); replace BKB := bb_ BKB hb; replace HB := bst_ HB hb; clear hb ho0; obtain ⟨Ao6, co6, eo6⟩ := Kd.R_slice HO401.out; subst eo6))
 go_loopg [7, 14] k (fun kq v7 v14 w' => ∃ (x7_1 : List (S162)) (x14_1 : Int), v14 = .int .i64 x14_1 ∧ Aside0 (impl_wanted.l0 kq l0 l2 x7_1 t399 (t399.length : Int) x14_1 = some r) ∧ Aside0 (kq ≤ k) ∧ Aside0 (Kd.R k162 162 w' w.heap.size (fun k_ => no_ (.slice Ao6 t399.length co6) k_) v7 x7_1) ∧ Aside0 (Kd.R k162 162 w' w.heap.size (fun k_ => no_ v7 k_) (.slice Ao6 t399.length co6) t399) ∧ Aside0 (Below w.heap.size w w') ∧ Aside0 (w'.heap[gbB]? = some (.cells #[.slice A2 l2.length c2] 24 (0, 0))))
 case atStart => exact ⟨(([] : List (S162))), (0), (by first | rfl | (simp; done) | (simp [*]; done)), H', ⟨Nat.le_refl _⟩, ⟨by first | exact Kd.R_nil _ _ _ _ _ | exact Kd.N_nil _ _ _ _ _ | exact Kd.V_nil _ _ _ _ _ | exact Kd.Q_nil _ _ _ _ _ | exact Kd.S_nil _ _ _ _ _⟩, ⟨by (with_reducible repeat (first | apply Kd.R_alloc | apply Kd.R_drewN | apply Kd.R_drew)); exact Kd.R_mono HO401.out (fun _ hk => (by simp [Value.ownBlock]))⟩, ⟨hB HB⟩, ⟨ba BKB.out⟩⟩
 case round =>
  clear H'
  obtain ⟨x7_1, x14_1, rfl, HA, HK1, HO_7, HO_12, HB, BKB⟩ := hrel
  cases gk with
  | zero => exact absurd HA.out (by simp [impl_wanted.l0])
  | succ k1 =>
   have H := HA.out
   clear HA
   simp only [impl_wanted.l0] at H
   by_cases c7 : x14_1 < (t399.length : Int)
   rotate_left
   ·rw [if_neg c7] at H
    have c7b0 : decide (x14_1 < (t399.length : Int)) = false := decide_eq_false c7
    clear c7
    obtain rfl := Option.some.inj H
    go_wp2
    go_ret
    exact ⟨_, by first | rfl | (simp [errW_none, errW_some] <;> rfl) | (simp [*, errW_none, errW_some] <;> rfl), by (with_reducible repeat (first | apply Kd.R_alloc | apply Kd.R_drewN | apply Kd.R_drew)); exact Kd.R_mono HO_7.out (fun _ hk => trivial), by repeat (first | (with_reducible first | exact HB.out | apply below_alloc | apply pw_below_drewN | apply below_drew1) | exact HB.out)⟩
   rw [if_pos c7] at H
   have c7b0 : decide (x14_1 < (t399.length : Int)) = true := decide_eq_true c7
   clear c7
   by_cases c8 : 0 ≤ x14_1
   rotate_left
   ·rw [if_neg c8] at H
    exact absurd H (by simp)
   rw [if_pos c8] at H
   have c8b0 : decide (0 ≤ x14_1) = true := decide_eq_true c8
   clear c8
   by_cases c9 : x14_1 < (t399.length : Int)
   rotate_left
   ·rw [if_neg c9] at H
    exact absurd H (by simp)
   rw [if_pos c9] at H
   have c9b0 : decide (x14_1 < (t399.length : Int)) = true := decide_eq_true c9
   clear c9
   replace H := Option.bind_eq_some_iff.mp H
   obtain ⟨t404, A100, H⟩ := H
   replace H : ((slices_ContainsFunc_int_int.f t404 l2).bind fun t407 => (if t407 = true then (if x7_1.length < 8796093022208 then (impl_wanted.l0 k1 l0 l2 (x7_1 ++ [(⟨(rd_T162 t399 x14_1).f0, (rd_T162 t399 x14_1).f1⟩ : S162)]) t399 (t399.length : Int) (wrap64 (x14_1 + 1))) else (none)) else (impl_wanted.l0 k1 l0 l2 x7_1 t399 (t399.length : Int) (wrap64 (x14_1 + 1))))) = some r := H
   have A10 := Aside0.mk A100
   clear A100
   replace H := Option.bind_eq_some_iff.mp H
   obtain ⟨t407, A110, H⟩ := H
   replace H : (if t407 = true then (if x7_1.length < 8796093022208 then (impl_wanted.l0 k1 l0 l2 (x7_1 ++ [(⟨(rd_T162 t399 x14_1).f0, (rd_T162 t399 x14_1).f1⟩ : S162)]) t399 (t399.length : Int) (wrap64 (x14_1 + 1))) else (none)) else (impl_wanted.l0 k1 l0 l2 x7_1 t399 (t399.length : Int) (wrap64 (x14_1 + 1)))) = some r := H
   have A11 := Aside0.mk A110
   clear A110
   by_cases c12 : t407 = true
   rotate_left
   ·replace c12 := Bool.eq_false_iff.mpr c12
    subst c12
    rw [if_neg (show ¬ (false = true) by decide)] at H
    have H' := Aside0.mk H
    clear H
    have p402 : 0 ≤ (x14_1 : Int) := of_decide_eq_true (by first | (with_reducible assumption) | assumption)
    have q402 : x14_1 < (t399.length : Int) := of_decide_eq_true (by first | (with_reducible assumption) | assumption)
    obtain ⟨ad402, e402, hx402_0, hx402_1⟩ := at_T162 (Kd.R_reads' HO_12.out).2.2 x14_1 p402 q402
    cases e402
    replace p402 := eq_true p402
    replace q402 := eq_true q402
    go_wp2_with (first | ((with_reducible refine gate_dst (N := 9) rfl ?_); refine box_event ?hg (N := 9) ?hd (cs := #[.int .i64 0, .int .i64 0]) (t := 162) ?hr ?_; (case hd => rfl); (case hg => rfl); (case hr => first | (go_simp; done) | (go_simp; rfl)); intro gb403 hg w20 hbox hb; have NLB := nl_ hg BKB; have NGB := ng_ hg BKB; replace BKB := bb_ BKB hb; have BK403 := Aside0.mk (hbox); have GW403 := gw_ hg HB; have GE403 := gw_ hg HB; replace HO_7 := Aside0.mk (Kd.R_below (Kd.R_elderB (ra HO_7.out) gb403 (Nat.le_of_eq hg.symm)) hb); replace HO_12 := Aside0.mk (Kd.R_below (Kd.R_elderB (ra HO_12.out) gb403 (Nat.le_of_eq hg.symm)) hb); replace HB := bst_ HB hb; clear hb hbox hg; have hcz21_0 : w20.cell? ⟨gb403, 0, none⟩ = some (.int .i64 0) := bc_ BK403 0; have hcz21_1 : w20.cell? ⟨gb403, 1, none⟩ = some (.int .i64 0) := bc_ BK403 1; have hfz21_0 := blk_frozen BK403.out 0; have hfz21_1 := blk_frozen BK403.out 1) | ((with_reducible refine gate_callee (f := 139) rfl ?_); refine goesL_ (some 23) rfl rfl Try.func139 (by kernel_rfl) rfl #[.slice A0 l0.length c0, .int .i64 ((rd_T162 t399 x14_1).f0), .int .i64 ((rd_T162 t399 x14_1).f1)] rfl tm_ ?_; (with_reducible refine (impl_behind.calls k1 _ _ l0 ((rd_T162 t399 x14_1).f0) ((rd_T162 t399 x14_1).f1) t404 _ ?side1 ?side2 A10.out).mono ?_); (case side1 => exact Kd.C_below HR0.out (hB HB)); (case side2 => exact HC0.out); rintro e w22 ⟨v405, rfl, ho0, hb⟩; refine ⟨_, rfl, ?_⟩; have HO406 := Aside0.mk (Kd.R_lower ho0 (below_size (hB HB))); replace HO_7 := Aside0.mk (Kd.R_below (ra (Kd.R_mono (Kd.R_far (p := ⟨gb403, 1, none⟩) (Kd.R_far (p := ⟨gb403, 0, none⟩) (Kd.R_mono HO_7.out (fun k_ hk => (⟨hk, hk.2⟩ : _ ∧ k_ ≠ gb403))) (fun _ hk => hk.2) (.int .i64 ((rd_T162 t399 x14_1).f0))) (fun _ hk => hk.2) (.int .i64 ((rd_T162 t399 x14_1).f1))) (fun _ h_ => h_.1))) hb); replace HO_12 := Aside0.mk (Kd.R_below (ra (Kd.R_mono (Kd.R_far (p := ⟨gb403, 1, none⟩) (Kd.R_far (p := ⟨gb403, 0, none⟩) (Kd.R_mono HO_12.out (fun k_ hk => (⟨hk, hk.2⟩ : _ ∧ k_ ≠ gb403))) (fun _ hk => hk.2) (.int .i64 ((rd_T162 t399 x14_1).f0))) (fun _ hk => hk.2) (.int .i64 ((rd_T162 t399 x14_1).f1))) (fun _ h_ => h_.1))) hb); replace BKB := Aside0.mk (blk_below (g := gbB) (o := .cells #[.slice A2 l2.length c2] 24 (0, 0)) (bx BKB) hb); replace BK403 := Aside0.mk (blk_below (g := gb403) (o := .cells #[.int .i64 ((rd_T162 t399 x14_1).f0), .int .i64 ((rd_T162 t399 x14_1).f1)] 162 (0, 0)) (by (with_reducible repeat (first | refine blk_drewN ?_ _ | refine blk_drew ?_ | refine blk_alloc ?_ _)); refine blk_put (cs := #[.int .i64 ((rd_T162 t399 x14_1).f0), .int .i64 0]) ?_ 1 _ rfl; (with_reducible repeat (first | refine blk_drewN ?_ _ | refine blk_drew ?_ | refine blk_alloc ?_ _)); refine blk_put (cs := #[.int .i64 0, .int .i64 0]) ?_ 0 _ rfl; (with_reducible repeat (first | refine blk_drewN ?_ _ | refine blk_drew ?_ | refine blk_alloc ?_ _)); exact BK403.out) hb); replace HB := bst_ HB hb; clear hb ho0; obtain ⟨Ao23, co23, eo23⟩ := Kd.R_slice HO406.out; subst eo23) | ((with_reducible refine gate_callee (f := 207) rfl ?_); refine goesL_ (some 25) rfl rfl Try.func207 (by kernel_rfl) rfl #[.slice Ao23 t404.length co23, .func (.func 208) #[] #[.pointer (some ⟨gbB, 0, none⟩)]] rfl tm_ ?_; (with_reducible refine (slices_ContainsFunc_int_int.calls _ _ t404 gbB _ _ l2 false _ _ _ (ra HO406.out) ?side3 ?side4 (ba BKB.out) A11.out).mono ?_); (case side3 => exact ca (Kd.C_below HR2.out HB.out)); (case side4 => exact HC2.out); rintro e w' ⟨rfl, ⟨nd, rfl⟩⟩; refine ⟨_, rfl, ?_⟩))
    go_roundg k1
    case measure => have := HK1.out; omega
    case rel => exact ⟨(x7_1), (wrap64 (x14_1 + 1)), (by first | rfl | (simp; done) | (simp [*]; done)), H', ⟨by have := HK1.out; omega⟩, rm_ HO_7 (fun _ hk => hk.1), rm_ HO_12 (fun _ hk => hk.1), ⟨hB HB⟩, ⟨ba BKB.out⟩⟩
   subst c12
   rw [if_pos rfl] at H
   by_cases c13 : x7_1.length < 8796093022208
   rotate_left
   ·rw [if_neg c13] at H
    exact absurd H (by simp)
   rw [if_pos c13] at H
   have LMc13 := Aside0.mk c13
   clear c13
   obtain ⟨y408, hy408⟩ : ∃ y_ : List (S162), y_ = (x7_1 ++ [(⟨(rd_T162 t399 x14_1).f0, (rd_T162 t399 x14_1).f1⟩ : S162)]) := ⟨_, rfl⟩
   replace H : (impl_wanted.l0 k1 l0 l2 y408 t399 (t399.length : Int) (wrap64 (x14_1 + 1))) = some r := by first | (rw [hy408]; with_reducible exact H) | (have H2_ := (Option.bind_some _ _).symm.trans H; rw [hy408]; with_reducible exact H2_) | (have H2_ := (Option.bind_some _ _).symm.trans H; with_reducible exact H2_) | with_reducible exact H | (rw [hy408]; exact H) | exact H
   have Ny408 := Aside0.mk hy408
   clear hy408
   have H' := Aside0.mk H
   clear H
   have p402 : 0 ≤ (x14_1 : Int) := of_decide_eq_true (by first | (with_reducible assumption) | assumption)
   have q402 : x14_1 < (t399.length : Int) := of_decide_eq_true (by first | (with_reducible assumption) | assumption)
   obtain ⟨ad402, e402, hx402_0, hx402_1⟩ := at_T162 (Kd.R_reads' HO_12.out).2.2 x14_1 p402 q402
   cases e402
   replace p402 := eq_true p402
   replace q402 := eq_true q402
   go_wp2_with (first | ((with_reducible refine gate_dst (N := 9) rfl ?_); refine box_event ?hg (N := 9) ?hd (cs := #[.int .i64 0, .int .i64 0]) (t := 162) ?hr ?_; (case hd => rfl); (case hg => rfl); (case hr => first | (go_simp; done) | (go_simp; rfl)); intro gb403 hg w14 hbox hb; have NLB := nl_ hg BKB; have NGB := ng_ hg BKB; replace BKB := bb_ BKB hb; have BK403 := Aside0.mk (hbox); have GW403 := gw_ hg HB; have GE403 := gw_ hg HB; replace HO_7 := Aside0.mk (Kd.R_below (Kd.R_elderB (ra HO_7.out) gb403 (Nat.le_of_eq hg.symm)) hb); replace HO_12 := Aside0.mk (Kd.R_below (Kd.R_elderB (ra HO_12.out) gb403 (Nat.le_of_eq hg.symm)) hb); replace HB := bst_ HB hb; clear hb hbox hg; have hcz15_0 : w14.cell? ⟨gb403, 0, none⟩ = some (.int .i64 0) := bc_ BK403 0; have hcz15_1 : w14.cell? ⟨gb403, 1, none⟩ = some (.int .i64 0) := bc_ BK403 1; have hfz15_0 := blk_frozen BK403.out 0; have hfz15_1 := blk_frozen BK403.out 1) | ((with_reducible refine gate_callee (f := 139) rfl ?_); refine goesL_ (some 23) rfl rfl Try.func139 (by kernel_rfl) rfl #[.slice A0 l0.length c0, .int .i64 ((rd_T162 t399 x14_1).f0), .int .i64 ((rd_T162 t399 x14_1).f1)] rfl tm_ ?_; (with_reducible refine (impl_behind.calls k1 _ _ l0 ((rd_T162 t399 x14_1).f0) ((rd_T162 t399 x14_1).f1) t404 _ ?side1 ?side2 A10.out).mono ?_); (case side1 => exact Kd.C_below HR0.out (hB HB)); (case side2 => exact HC0.out); rintro e w16 ⟨v405, rfl, ho0, hb⟩; refine ⟨_, rfl, ?_⟩; have HO406 := Aside0.mk (Kd.R_lower ho0 (below_size (hB HB))); replace HO_7 := Aside0.mk (Kd.R_below (ra (Kd.R_mono (Kd.R_far (p := ⟨gb403, 1, none⟩) (Kd.R_far (p := ⟨gb403, 0, none⟩) (Kd.R_mono HO_7.out (fun k_ hk => (⟨hk, hk.2⟩ : _ ∧ k_ ≠ gb403))) (fun _ hk => hk.2) (.int .i64 ((rd_T162 t399 x14_1).f0))) (fun _ hk => hk.2) (.int .i64 ((rd_T162 t399 x14_1).f1))) (fun _ h_ => h_.1))) hb); replace HO_12 := Aside0.mk (Kd.R_below (ra (Kd.R_mono (Kd.R_far (p := ⟨gb403, 1, none⟩) (Kd.R_far (p := ⟨gb403, 0, none⟩) (Kd.R_mono HO_12.out (fun k_ hk => (⟨hk, hk.2⟩ : _ ∧ k_ ≠ gb403))) (fun _ hk => hk.2) (.int .i64 ((rd_T162 t399 x14_1).f0))) (fun _ hk => hk.2) (.int .i64 ((rd_T162 t399 x14_1).f1))) (fun _ h_ => h_.1))) hb); replace BKB := Aside0.mk (blk_below (g := gbB) (o := .cells #[.slice A2 l2.length c2] 24 (0, 0)) (bx BKB) hb); replace BK403 := Aside0.mk (blk_below (g := gb403) (o := .cells #[.int .i64 ((rd_T162 t399 x14_1).f0), .int .i64 ((rd_T162 t399 x14_1).f1)] 162 (0, 0)) (by (with_reducible repeat (first | refine blk_drewN ?_ _ | refine blk_drew ?_ | refine blk_alloc ?_ _)); refine blk_put (cs := #[.int .i64 ((rd_T162 t399 x14_1).f0), .int .i64 0]) ?_ 1 _ rfl; (with_reducible repeat (first | refine blk_drewN ?_ _ | refine blk_drew ?_ | refine blk_alloc ?_ _)); refine blk_put (cs := #[.int .i64 0, .int .i64 0]) ?_ 0 _ rfl; (with_reducible repeat (first | refine blk_drewN ?_ _ | refine blk_drew ?_ | refine blk_alloc ?_ _)); exact BK403.out) hb); replace HB := bst_ HB hb; clear hb ho0; obtain ⟨Ao17, co17, eo17⟩ := Kd.R_slice HO406.out; subst eo17) | ((with_reducible refine gate_callee (f := 207) rfl ?_); refine goesL_ (some 25) rfl rfl Try.func207 (by kernel_rfl) rfl #[.slice Ao17 t404.length co17, .func (.func 208) #[] #[.pointer (some ⟨gbB, 0, none⟩)]] rfl tm_ ?_; (with_reducible refine (slices_ContainsFunc_int_int.calls _ _ t404 gbB _ _ l2 true _ _ _ (ra HO406.out) ?side3 ?side4 (ba BKB.out) A11.out).mono ?_); (case side3 => exact ca (Kd.C_below HR2.out HB.out)); (case side4 => exact HC2.out); rintro e w' ⟨rfl, ⟨nd, rfl⟩⟩; refine ⟨_, rfl, ?_⟩; have hcz18_0 : w16.cell? ⟨gb403, 0, none⟩ = some (.int .i64 ((rd_T162 t399 x14_1).f0)) := bc_ BK403 0; have hcz18_1 : w16.cell? ⟨gb403, 1, none⟩ = some (.int .i64 ((rd_T162 t399 x14_1).f1)) := bc_ BK403 1; have hfz18_0 := blk_frozen BK403.out 0; have hfz18_1 := blk_frozen BK403.out 1) | ((with_reducible refine gate_builtin (b := .append) (xs := #[.tmp 26, .tmp 28]) rfl ?_); at_builtin; refine Kd.R_append k162 (w0 := w) w.heap.size rfl (.tmp 26) (.tmp 28) 99 162 (.agg #[(.int .i64 0), (.int .i64 0)]) 16 rfl Try.underlying99 info162 rfl (by decide) (by omega) u7 x7_1 (⟨(rd_T162 t399 x14_1).f0, (rd_T162 t399 x14_1).f1⟩ : S162) [.int .i64 ((rd_T162 t399 x14_1).f0), .int .i64 ((rd_T162 t399 x14_1).f1)] (fun k_ => some k_ ≠ (.slice (some ad402) t399.length co6 : Value).ownBlock ∧ k_ ≠ gb403) (fun _ => False) rfl rfl ?aP (fun _ hk => hk.elim) ?aF ?aO ?aB ?aS ?aL ?_; (case aP => exact k162_mkM _ _ _ (⟨(rd_T162 t399 x14_1).f0, (rd_T162 t399 x14_1).f1⟩ : S162)); (case aB => exact (hB HB)); (case aF => exact (fun k_ hk => ⟨Kd.fresh' (rl_ HO_12) k_ hk, Kd.freshB (g := gb403) (o := .cells #[.int .i64 ((rd_T162 t399 x14_1).f0), .int .i64 ((rd_T162 t399 x14_1).f1)] 162 (0, 0)) (ba BK403.out) k_ hk⟩)); (case aO => exact (ra HO_7.out)); (case aS => exact (below_size (hB HB))); (case aL => have := LMc13.out; omega); intro v409 w19 ho hb hg hat; rw [← Ny408.out] at ho; have HO410 := Aside0.mk (ho); replace HO_12 := Aside0.mk (Kd.R_after (ok := (fun k_ => k_ ≠ gb403)) (rm_ HO_12 (fun _ hk => ⟨hk.2, hk.1⟩)).out hg hat); replace BKB := Aside0.mk (blk_grown (g := gbB) (ba BKB.out) hg (kne_ HO_7 BKB)); replace BK403 := Aside0.mk (blk_grown (g := gb403) (o := .cells #[.int .i64 ((rd_T162 t399 x14_1).f0), .int .i64 ((rd_T162 t399 x14_1).f1)] 162 (0, 0)) (ba BK403.out) hg (Kd.R_away HO_7.out (fun _ hk => hk.2))); replace HO406 := Aside0.mk (Kd.R_over' (ra HO406.out) (Kd.R_typed (ra HO_7.out)) (by decide) hg); replace HB := Aside0.mk (hb); clear HO_7; clear ho hb hg hat))
   go_roundg k1
   case measure => have := HK1.out; omega
   case rel => exact ⟨(y408), (wrap64 (x14_1 + 1)), (by first | rfl | (simp; done) | (simp [*]; done)), H', ⟨by have := HK1.out; omega⟩, rm_ HO410 (fun _ hk => hk.1), rm_ HO_12 (fun _ hk => hk.2), ⟨hB HB⟩, ⟨ba BKB.out⟩⟩

def impl_WantsOn.f (k : Nat) (l0 : List Int) (a1 : Int) (l2 : List Int) : Option ((List (S162)) × Bool) := (impl_goodTree.f k l0 (([a1] : List Int))).bind fun t414 => (if t414 = true then ((impl_goodWants.f k l2).bind fun t415 => (if t415 = true then ((impl_wanted.f k l0 a1 l2).bind fun t416 => (some (t416, true))) else (some (([] : List (S162)), false)))) else (some (([] : List (S162)), false)))
theorem impl_WantsOn.mono : ∀ a0 a1 a2 k, LeO (impl_WantsOn.f k a0 a1 a2) (impl_WantsOn.f (k + 1) a0 a1 a2) := by
 intro a0 a1 a2 k
 unfold impl_WantsOn.f
 repeat' first
   | (with_reducible exact impl_goodTree.mono _ _ _)
   | (with_reducible exact impl_goodWants.mono _ _)
   | (with_reducible exact impl_wanted.mono _ _ _ _)
   | (with_reducible exact LeO.refl _)
   | (with_reducible exact LeO.none _)
   | (with_reducible refine LeO.ite ?_ ?_)
   | (with_reducible refine LeO.bind ?_ (fun _ => ?_))
set_option maxHeartbeats 8000000 in
set_option maxRecDepth 100000 in
theorem impl_WantsOn.calls (k : Nat) (A0 : Option Addr) (c0 : Nat) (l0 : List Int) (a1 : Int) (A2 : Option Addr) (c2 : Nat) (l2 : List Int) (r1 : List (S162)) (r2 : Bool) (w : World) (hr0 : Kd.C (Kd.int .i64) w A0 l0.length l0) (hc0 : l0.length ≤ c0) (hr2 : Kd.C (Kd.int .i64) w A2 l2.length l2) (hc2 : l2.length ≤ c2) (h : impl_WantsOn.f k l0 a1 l2 = some (r1, r2)) :
  Calls Try.prog 146 #[.slice A0 l0.length c0, .int .i64 a1, .slice A2 l2.length c2] w fun e w' => ∃ v0_ : Value, e = .returned (.tuple #[v0_, .bool r2]) ∧ Kd.R k162 162 w' w.heap.size (fun _ => True) v0_ r1 ∧ Below w.heap.size w w' := by
 have HR0 := Aside0.mk hr0
 have HC0 := Aside0.mk hc0
 clear hr0 hc0
 have HR2 := Aside0.mk hr2
 have HC2 := Aside0.mk hc2
 clear hr2 hc2
 have HB := Aside0.mk (Below.refl w.heap.size w)
 have H : ((impl_goodTree.f k l0 (([a1] : List Int))).bind fun t414 => (if t414 = true then ((impl_goodWants.f k l2).bind fun t415 => (if t415 = true then ((impl_wanted.f k l0 a1 l2).bind fun t416 => (some (t416, true))) else (some (([] : List (S162)), false)))) else (some (([] : List (S162)), false)))) = some (r1, r2) := h
 clear h
 obtain ⟨y411, hy411⟩ : ∃ y_ : List Int, y_ = (([a1] : List Int)) := ⟨_, rfl⟩
 replace H : ((impl_goodTree.f k l0 y411).bind fun t414 => (if t414 = true then ((impl_goodWants.f k l2).bind fun t415 => (if t415 = true then ((impl_wanted.f k l0 a1 l2).bind fun t416 => (some (t416, true))) else (some (([] : List (S162)), false)))) else (some (([] : List (S162)), false)))) = some (r1, r2) := by first | (rw [hy411]; with_reducible exact H) | (have H2_ := (Option.bind_some _ _).symm.trans H; rw [hy411]; with_reducible exact H2_) | (have H2_ := (Option.bind_some _ _).symm.trans H; with_reducible exact H2_) | with_reducible exact H | (rw [hy411]; exact H) | exact H
 have Ny411 := Aside0.mk hy411
 clear hy411
 replace H := Option.bind_eq_some_iff.mp H
 obtain ⟨t414, A40, H⟩ := H
 replace H : (if t414 = true then ((impl_goodWants.f k l2).bind fun t415 => (if t415 = true then ((impl_wanted.f k l0 a1 l2).bind fun t416 => (some (t416, true))) else (some (([] : List (S162)), false)))) else (some (([] : List (S162)), false))) = some (r1, r2) := H
 have A4 := Aside0.mk A40
 clear A40
 by_cases c5 : t414 = true
 rotate_left
 ·replace c5 := Bool.eq_false_iff.mpr c5
  subst c5
  rw [if_neg (show ¬ (false = true) by decide)] at H
  simp only [Option.some.injEq, Prod.mk.injEq] at H
  obtain ⟨rfl, rfl⟩ := H
  go_enter Try.func146, Try.ntmps146
  go_wp2_with (first | ((with_reducible refine gate_dst (N := 10) rfl ?_); refine Kd.R_lit (Kd.int .i64) _ 3 ?hg (N := 10) ?hd (xs := ([a1] : List Int)) (inner := [.int .i64 a1]) (ok := fun _ => True) (okp := fun _ => True) ?hr ?hp (fun _ hk => hk) trivial (Below.refl _ _) (Nat.le_refl _) (by simp) ?_; (case hd => rfl); (case hg => rfl); (case hr => first | (go_simp; done) | (go_simp; rfl)); (case hp => exact (Reps.one (show Kd.M (Kd.int .i64) _ _ _ a1 [.int .i64 a1] from rfl) (Reps.none _ _))); intro v412 w16 ho17 hb hg_ hnew_; clear hg_ hnew_; (first | rw [← Ny411.out] at ho17 | (simp only [Int.reduceToNat] at ho17; rw [← Ny411.out] at ho17)); have HO413 := Aside0.mk (Kd.R_lower ho17 (below_size (hB HB))); replace HB := bst_ HB hb; clear hb ho17; obtain ⟨Ao18, co18, eo18⟩ := Kd.R_slice HO413.out; subst eo18) | ((with_reducible refine gate_callee (f := 136) rfl ?_); refine goesL_ (some 11) rfl rfl Try.func136 (by kernel_rfl) rfl #[.slice A0 l0.length c0, .slice Ao18 y411.length co18] rfl tm_ ?_; (with_reducible refine (impl_goodTree.calls k _ _ l0 _ _ y411 false _ ?side1 ?side2 ?side3 ?side4 A4.out).mono ?_); (case side1 => exact ca (Kd.C_below HR0.out HB.out)); (case side2 => exact HC0.out); (case side3 => exact ca (Kd.R_reads' HO413.out).2.2); (case side4 => exact (Kd.R_reads' HO413.out).2.1); rintro e w' ⟨rfl, ⟨nd, rfl⟩⟩; refine ⟨_, rfl, ?_⟩))
  go_ret2
  exact ⟨_, by first | rfl | (simp [errW_none, errW_some] <;> rfl) | (simp [*, errW_none, errW_some] <;> rfl), by first | exact Kd.R_nil _ _ _ _ _ | exact Kd.N_nil _ _ _ _ _ | exact Kd.V_nil _ _ _ _ _ | exact Kd.Q_nil _ _ _ _ _ | exact Kd.S_nil _ _ _ _ _, by repeat (first | (with_reducible first | exact HB.out | apply below_alloc | apply pw_below_drewN | apply below_drew1) | exact HB.out)⟩
 subst c5
 rw [if_pos rfl] at H
 replace H := Option.bind_eq_some_iff.mp H
 obtain ⟨t415, A60, H⟩ := H
 replace H : (if t415 = true then ((impl_wanted.f k l0 a1 l2).bind fun t416 => (some (t416, true))) else (some (([] : List (S162)), false))) = some (r1, r2) := H
 have A6 := Aside0.mk A60
 clear A60
 by_cases c7 : t415 = true
 rotate_left
 ·replace c7 := Bool.eq_false_iff.mpr c7
  subst c7
  rw [if_neg (show ¬ (false = true) by decide)] at H
  simp only [Option.some.injEq, Prod.mk.injEq] at H
  obtain ⟨rfl, rfl⟩ := H
  go_enter Try.func146, Try.ntmps146
  go_wp2_with (first | ((with_reducible refine gate_dst (N := 10) rfl ?_); refine Kd.R_lit (Kd.int .i64) _ 3 ?hg (N := 10) ?hd (xs := ([a1] : List Int)) (inner := [.int .i64 a1]) (ok := fun _ => True) (okp := fun _ => True) ?hr ?hp (fun _ hk => hk) trivial (Below.refl _ _) (Nat.le_refl _) (by simp) ?_; (case hd => rfl); (case hg => rfl); (case hr => first | (go_simp; done) | (go_simp; rfl)); (case hp => exact (Reps.one (show Kd.M (Kd.int .i64) _ _ _ a1 [.int .i64 a1] from rfl) (Reps.none _ _))); intro v412 w13 ho14 hb hg_ hnew_; clear hg_ hnew_; (first | rw [← Ny411.out] at ho14 | (simp only [Int.reduceToNat] at ho14; rw [← Ny411.out] at ho14)); have HO413 := Aside0.mk (Kd.R_lower ho14 (below_size (hB HB))); replace HB := bst_ HB hb; clear hb ho14; obtain ⟨Ao15, co15, eo15⟩ := Kd.R_slice HO413.out; subst eo15) | ((with_reducible refine gate_callee (f := 136) rfl ?_); refine goesL_ (some 11) rfl rfl Try.func136 (by kernel_rfl) rfl #[.slice A0 l0.length c0, .slice Ao15 y411.length co15] rfl tm_ ?_; (with_reducible refine (impl_goodTree.calls k _ _ l0 _ _ y411 true _ ?side1 ?side2 ?side3 ?side4 A4.out).mono ?_); (case side1 => exact ca (Kd.C_below HR0.out HB.out)); (case side2 => exact HC0.out); (case side3 => exact ca (Kd.R_reads' HO413.out).2.2); (case side4 => exact (Kd.R_reads' HO413.out).2.1); rintro e w' ⟨rfl, ⟨nd, rfl⟩⟩; refine ⟨_, rfl, ?_⟩) | (go_at_call 187; (with_reducible refine (impl_goodWants.calls k _ _ l2 false _ ?side1 ?side2 A6.out).mono ?_); (case side1 => exact ca (Kd.C_below HR2.out (hB HB))); (case side2 => exact HC2.out); rintro e w' ⟨rfl, ⟨nd, rfl⟩⟩))
  go_ret2
  exact ⟨_, by first | rfl | (simp [errW_none, errW_some] <;> rfl) | (simp [*, errW_none, errW_some] <;> rfl), by first | exact Kd.R_nil _ _ _ _ _ | exact Kd.N_nil _ _ _ _ _ | exact Kd.V_nil _ _ _ _ _ | exact Kd.Q_nil _ _ _ _ _ | exact Kd.S_nil _ _ _ _ _, by repeat (first | (with_reducible first | exact HB.out | apply below_alloc | apply pw_below_drewN | apply below_drew1) | exact HB.out)⟩
 subst c7
 rw [if_pos rfl] at H
 replace H := Option.bind_eq_some_iff.mp H
 obtain ⟨t416, A80, H⟩ := H
 replace H : (some (t416, true)) = some (r1, r2) := H
 have A8 := Aside0.mk A80
 clear A80
 simp only [Option.some.injEq, Prod.mk.injEq] at H
 obtain ⟨rfl, rfl⟩ := H
 go_enter Try.func146, Try.ntmps146
 go_wp2_with (first | ((with_reducible refine gate_dst (N := 10) rfl ?_); refine Kd.R_lit (Kd.int .i64) _ 3 ?hg (N := 10) ?hd (xs := ([a1] : List Int)) (inner := [.int .i64 a1]) (ok := fun _ => True) (okp := fun _ => True) ?hr ?hp (fun _ hk => hk) trivial (Below.refl _ _) (Nat.le_refl _) (by simp) ?_; (case hd => rfl); (case hg => rfl); (case hr => first | (go_simp; done) | (go_simp; rfl)); (case hp => exact (Reps.one (show Kd.M (Kd.int .i64) _ _ _ a1 [.int .i64 a1] from rfl) (Reps.none _ _))); intro v412 w9 ho10 hb hg_ hnew_; clear hg_ hnew_; (first | rw [← Ny411.out] at ho10 | (simp only [Int.reduceToNat] at ho10; rw [← Ny411.out] at ho10)); have HO413 := Aside0.mk (Kd.R_lower ho10 (below_size (hB HB))); replace HB := bst_ HB hb; clear hb ho10; obtain ⟨Ao11, co11, eo11⟩ := Kd.R_slice HO413.out; subst eo11) | ((with_reducible refine gate_callee (f := 136) rfl ?_); refine goesL_ (some 11) rfl rfl Try.func136 (by kernel_rfl) rfl #[.slice A0 l0.length c0, .slice Ao11 y411.length co11] rfl tm_ ?_; (with_reducible refine (impl_goodTree.calls k _ _ l0 _ _ y411 true _ ?side1 ?side2 ?side3 ?side4 A4.out).mono ?_); (case side1 => exact ca (Kd.C_below HR0.out HB.out)); (case side2 => exact HC0.out); (case side3 => exact ca (Kd.R_reads' HO413.out).2.2); (case side4 => exact (Kd.R_reads' HO413.out).2.1); rintro e w' ⟨rfl, ⟨nd, rfl⟩⟩; refine ⟨_, rfl, ?_⟩) | (go_at_call 187; (with_reducible refine (impl_goodWants.calls k _ _ l2 true _ ?side1 ?side2 A6.out).mono ?_); (case side1 => exact ca (Kd.C_below HR2.out (hB HB))); (case side2 => exact HC2.out); rintro e w' ⟨rfl, ⟨nd, rfl⟩⟩) | ((with_reducible refine gate_callee (f := 188) rfl ?_); refine goesL_ (some 21) rfl rfl Try.func188 (by kernel_rfl) rfl #[.slice A0 l0.length c0, .int .i64 a1, .slice A2 l2.length c2] rfl tm_ ?_; (with_reducible refine (impl_wanted.calls k _ _ l0 a1 _ _ l2 t416 _ ?side1 ?side2 ?side3 ?side4 A8.out).mono ?_); (case side1 => exact ca (Kd.C_below HR0.out (hB HB))); (case side2 => exact HC0.out); (case side3 => exact ca (Kd.C_below HR2.out (hB HB))); (case side4 => exact HC2.out); rintro e w12 ⟨v417, rfl, ho0, hb⟩; refine ⟨_, rfl, ?_⟩; have HO418 := Aside0.mk (Kd.R_lower ho0 (below_size (hB HB))); replace HO413 := rb_ HO413 hb; replace HB := bst_ HB hb; clear hb ho0))
 go_ret2
 exact ⟨_, by first | rfl | (simp [errW_none, errW_some] <;> rfl) | (simp [*, errW_none, errW_some] <;> rfl), by (with_reducible repeat (first | apply Kd.R_alloc | apply Kd.R_drewN | apply Kd.R_drew)); exact HO418.out, by repeat (first | (with_reducible first | exact HB.out | apply below_alloc | apply pw_below_drewN | apply below_drew1) | exact HB.out)⟩

def impl_SavedBy.f (k : Nat) (l0 : List Int) (a1 : Int) (l2 : List Int) : Option (Int × Bool) := (impl_WantsOn.f k l0 a1 l2).bind fun bt419 => (if bt419.2 = true then ((impl_spread.f k l0 a1).bind fun t423 => (some (wrap64 ((t423.length : Int) - (bt419.1.length : Int)), true))) else (some (0, false)))
theorem impl_SavedBy.mono : ∀ a0 a1 a2 k, LeO (impl_SavedBy.f k a0 a1 a2) (impl_SavedBy.f (k + 1) a0 a1 a2) := by
 intro a0 a1 a2 k
 unfold impl_SavedBy.f
 repeat' first
   | (with_reducible exact impl_WantsOn.mono _ _ _ _)
   | (with_reducible exact impl_spread.mono _ _ _)
   | (with_reducible exact LeO.refl _)
   | (with_reducible exact LeO.none _)
   | (with_reducible refine LeO.ite ?_ ?_)
   | (with_reducible refine LeO.bind ?_ (fun _ => ?_))
set_option maxHeartbeats 8000000 in
set_option maxRecDepth 100000 in
theorem impl_SavedBy.calls (k : Nat) (A0 : Option Addr) (c0 : Nat) (l0 : List Int) (a1 : Int) (A2 : Option Addr) (c2 : Nat) (l2 : List Int) (r1 : Int) (r2 : Bool) (w : World) (hr0 : Kd.C (Kd.int .i64) w A0 l0.length l0) (hc0 : l0.length ≤ c0) (hr2 : Kd.C (Kd.int .i64) w A2 l2.length l2) (hc2 : l2.length ≤ c2) (h : impl_SavedBy.f k l0 a1 l2 = some (r1, r2)) :
  Calls Try.prog 77 #[.slice A0 l0.length c0, .int .i64 a1, .slice A2 l2.length c2] w fun e w' => e = .returned (.tuple #[.int .i64 r1, .bool r2]) ∧ Below w.heap.size w w' := by
 have HR0 := Aside0.mk hr0
 have HC0 := Aside0.mk hc0
 clear hr0 hc0
 have HR2 := Aside0.mk hr2
 have HC2 := Aside0.mk hc2
 clear hr2 hc2
 have HB := Aside0.mk (Below.refl w.heap.size w)
 have H : ((impl_WantsOn.f k l0 a1 l2).bind fun bt419 => (if bt419.2 = true then ((impl_spread.f k l0 a1).bind fun t423 => (some (wrap64 ((t423.length : Int) - (bt419.1.length : Int)), true))) else (some (0, false)))) = some (r1, r2) := h
 clear h
 replace H := Option.bind_eq_some_iff.mp H
 obtain ⟨⟨t419, t420⟩, A40, H⟩ := H
 replace H : (if t420 = true then ((impl_spread.f k l0 a1).bind fun t423 => (some (wrap64 ((t423.length : Int) - (t419.length : Int)), true))) else (some (0, false))) = some (r1, r2) := H
 have A4 := Aside0.mk A40
 clear A40
 by_cases c5 : t420 = true
 rotate_left
 ·replace c5 := Bool.eq_false_iff.mpr c5
  subst c5
  rw [if_neg (show ¬ (false = true) by decide)] at H
  simp only [Option.some.injEq, Prod.mk.injEq] at H
  obtain ⟨rfl, rfl⟩ := H
  go_enter Try.func77, Try.ntmps77
  go_wp2_with (first | ((with_reducible refine gate_callee (f := 146) rfl ?_); refine goesL_ (some 14) rfl rfl Try.func146 (by kernel_rfl) rfl #[.slice A0 l0.length c0, .int .i64 a1, .slice A2 l2.length c2] rfl tm_ ?_; (with_reducible refine (impl_WantsOn.calls k _ _ l0 a1 _ _ l2 t419 false _ ?side1 ?side2 ?side3 ?side4 A4.out).mono ?_); (case side1 => exact ca HR0.out); (case side2 => exact HC0.out); (case side3 => exact ca HR2.out); (case side4 => exact HC2.out); rintro e w11 ⟨v421, rfl, ho0, hb⟩; refine ⟨_, rfl, ?_⟩; have HO422 := Aside0.mk (Kd.R_lower ho0 (below_size (hB HB))); replace HB := bst_ HB hb; clear hb ho0))
  go_ret2
  exact ⟨by first | rfl | (simp [errW_none, errW_some] <;> rfl) | (simp [*, errW_none, errW_some] <;> rfl), by repeat (first | (with_reducible first | exact HB.out | apply below_alloc | apply pw_below_drewN | apply below_drew1) | exact HB.out)⟩
 subst c5
 rw [if_pos rfl] at H
 replace H := Option.bind_eq_some_iff.mp H
 obtain ⟨t423, A60, H⟩ := H
 replace H : (some (wrap64 ((t423.length : Int) - (t419.length : Int)), true)) = some (r1, r2) := H
 have A6 := Aside0.mk A60
 clear A60
 simp only [Option.some.injEq, Prod.mk.injEq] at H
 obtain ⟨rfl, rfl⟩ := H
 go_enter Try.func77, Try.ntmps77
 go_wp2_with (first | ((with_reducible refine gate_callee (f := 146) rfl ?_); refine goesL_ (some 14) rfl rfl Try.func146 (by kernel_rfl) rfl #[.slice A0 l0.length c0, .int .i64 a1, .slice A2 l2.length c2] rfl tm_ ?_; (with_reducible refine (impl_WantsOn.calls k _ _ l0 a1 _ _ l2 t419 true _ ?side1 ?side2 ?side3 ?side4 A4.out).mono ?_); (case side1 => exact ca HR0.out); (case side2 => exact HC0.out); (case side3 => exact ca HR2.out); (case side4 => exact HC2.out); rintro e w7 ⟨v421, rfl, ho0, hb⟩; refine ⟨_, rfl, ?_⟩; have HO422 := Aside0.mk (Kd.R_lower ho0 (below_size (hB HB))); replace HB := bst_ HB hb; clear hb ho0) | ((with_reducible refine gate_callee (f := 147) rfl ?_); refine goesL_ (some 21) rfl rfl Try.func147 (by kernel_rfl) rfl #[.slice A0 l0.length c0, .int .i64 a1] rfl tm_ ?_; (with_reducible refine (impl_spread.calls k _ _ l0 a1 t423 _ ?side1 ?side2 A6.out).mono ?_); (case side1 => exact ca (Kd.C_below HR0.out HB.out)); (case side2 => exact HC0.out); rintro e w8 ⟨v424, rfl, ho0, hb⟩; refine ⟨_, rfl, ?_⟩; have HO425 := Aside0.mk (Kd.R_lower (Kd.R_new' ho0 (rl_ HO422)) (below_size (hB HB))); replace HO422 := re_ HO422 ho0 hb; replace HB := bst_ HB hb; clear hb ho0; obtain ⟨Ao9, co9, eo9⟩ := Kd.R_slice HO425.out; subst eo9; obtain ⟨Ao10, co10, eo10⟩ := Kd.R_slice HO422.out; subst eo10))
 go_ret2
 exact ⟨by first | rfl | (simp [errW_none, errW_some] <;> rfl) | (simp [*, errW_none, errW_some] <;> rfl), by repeat (first | (with_reducible first | exact HB.out | apply below_alloc | apply pw_below_drewN | apply below_drew1) | exact HB.out)⟩

def laws_FnExactSavedBy.j0 : Nat → List Int → List Int → List Int → List Int → Bool → Option (Bool)
 | 0, _, _, _, _, _ => none
 | k + 1, x0, x2, x9, x10, x46 => if x46 = true then (some false) else ((laws_toIntS.f k x0).bind fun t442 => ((laws_eqIntS.f k x9 t442).bind fun t445 => (if t445 = true then ((laws_toIntS.f k x2).bind fun t446 => ((laws_eqIntS.f k x10 t446).bind fun t449 => (if t449 = true then (some true) else (some false)))) else (some false))))
def laws_FnExactSavedBy.f (k : Nat) (l0 : List Int) (a1 : Int) (l2 : List Int) : Option (Bool) := if (l0.length : Int) > 1048576 then (some true) else (if (l2.length : Int) > 1048576 then (some true) else ((laws_toIntS.f k l0).bind fun t426 => ((laws_toIntS.f k l2).bind fun t429 => ((spec_SavedBy.f k t426 a1 t429).bind fun bt432 => ((laws_toIntS.f k l0).bind fun t434 => ((laws_toIntS.f k l2).bind fun t437 => ((impl_SavedBy.f k t434 a1 t437).bind fun bt440 => (if bt440.1 = bt432.1 then (laws_FnExactSavedBy.j0 k l0 l2 t434 t437 (bt440.2 != bt432.2)) else (laws_FnExactSavedBy.j0 k l0 l2 t434 t437 true)))))))))
theorem laws_FnExactSavedBy.mono_l : ∀ k, (∀ y0 y1 y2 y3 y4, LeO (laws_FnExactSavedBy.j0 k y0 y1 y2 y3 y4) (laws_FnExactSavedBy.j0 (k + 1) y0 y1 y2 y3 y4))
 | 0 => fun _ _ _ _ _ r h => by simp [laws_FnExactSavedBy.j0] at h
 | k + 1 => by
  have ih0 := laws_FnExactSavedBy.mono_l k
  ·intro y0 y1 y2 y3 y4
   unfold laws_FnExactSavedBy.j0
   repeat' first
   | (with_reducible exact ih0 _ _ _ _ _)
   | (with_reducible exact impl_SavedBy.mono _ _ _ _)
   | (with_reducible exact laws_eqIntS.mono _ _ _)
   | (with_reducible exact laws_toIntS.mono _ _)
   | (with_reducible exact spec_SavedBy.mono _ _ _ _)
   | (with_reducible exact LeO.refl _)
   | (with_reducible exact LeO.none _)
   | (with_reducible refine LeO.ite ?_ ?_)
   | (with_reducible refine LeO.bind ?_ (fun _ => ?_))
theorem laws_FnExactSavedBy.mono : ∀ a0 a1 a2 k, LeO (laws_FnExactSavedBy.f k a0 a1 a2) (laws_FnExactSavedBy.f (k + 1) a0 a1 a2) := by
 intro a0 a1 a2 k
 have ih0 := laws_FnExactSavedBy.mono_l k
 unfold laws_FnExactSavedBy.f
 repeat' first
   | (with_reducible exact ih0 _ _ _ _ _)
   | (with_reducible exact impl_SavedBy.mono _ _ _ _)
   | (with_reducible exact laws_eqIntS.mono _ _ _)
   | (with_reducible exact laws_toIntS.mono _ _)
   | (with_reducible exact spec_SavedBy.mono _ _ _ _)
   | (with_reducible exact LeO.refl _)
   | (with_reducible exact LeO.none _)
   | (with_reducible refine LeO.ite ?_ ?_)
   | (with_reducible refine LeO.bind ?_ (fun _ => ?_))
set_option maxHeartbeats 8000000 in
set_option maxRecDepth 100000 in
theorem laws_FnExactSavedBy.calls (k : Nat) (A0 : Option Addr) (c0 : Nat) (l0 : List Int) (a1 : Int) (A2 : Option Addr) (c2 : Nat) (l2 : List Int) (r : Bool) (w : World) (hr0 : Kd.C (Kd.int .i64) w A0 l0.length l0) (hc0 : l0.length ≤ c0) (hr2 : Kd.C (Kd.int .i64) w A2 l2.length l2) (hc2 : l2.length ≤ c2) (h : laws_FnExactSavedBy.f k l0 a1 l2 = some r) :
  Calls Try.prog 14 #[.slice A0 l0.length c0, .int .i64 a1, .slice A2 l2.length c2] w fun e w' => e = .returned (.bool r) ∧ Below w.heap.size w w' := by
 have HR0 := Aside0.mk hr0
 have HC0 := Aside0.mk hc0
 clear hr0 hc0
 have HR2 := Aside0.mk hr2
 have HC2 := Aside0.mk hc2
 clear hr2 hc2
 have HB := Aside0.mk (Below.refl w.heap.size w)
 have H : (if (l0.length : Int) > 1048576 then (some true) else (if (l2.length : Int) > 1048576 then (some true) else ((laws_toIntS.f k l0).bind fun t426 => ((laws_toIntS.f k l2).bind fun t429 => ((spec_SavedBy.f k t426 a1 t429).bind fun bt432 => ((laws_toIntS.f k l0).bind fun t434 => ((laws_toIntS.f k l2).bind fun t437 => ((impl_SavedBy.f k t434 a1 t437).bind fun bt440 => (if bt440.1 = bt432.1 then (laws_FnExactSavedBy.j0 k l0 l2 t434 t437 (bt440.2 != bt432.2)) else (laws_FnExactSavedBy.j0 k l0 l2 t434 t437 true)))))))))) = some r := h
 clear h
 by_cases c4 : (l0.length : Int) > 1048576
 ·rw [if_pos c4] at H
  have c4b0 : decide (1048576 < (l0.length : Int)) = true := decide_eq_true c4
  have c4b1 : decide (1048576 < l0.length) = true := decide_eq_true (by omega)
  clear c4
  obtain rfl := Option.some.inj H
  go_enter Try.func14, Try.ntmps14
  go_wp2
  go_ret
  exact ⟨by first | rfl | (simp [errW_none, errW_some] <;> rfl) | (simp [*, errW_none, errW_some] <;> rfl), by repeat (first | (with_reducible first | exact HB.out | apply below_alloc | apply pw_below_drewN | apply below_drew1) | exact HB.out)⟩
 rw [if_neg c4] at H
 have c4b0 : decide (1048576 < (l0.length : Int)) = false := decide_eq_false c4
 have c4b1 : decide (1048576 < l0.length) = false := decide_eq_false (by omega)
 clear c4
 by_cases c5 : (l2.length : Int) > 1048576
 ·rw [if_pos c5] at H
  have c5b0 : decide (1048576 < (l2.length : Int)) = true := decide_eq_true c5
  have c5b1 : decide (1048576 < l2.length) = true := decide_eq_true (by omega)
  clear c5
  obtain rfl := Option.some.inj H
  go_enter Try.func14, Try.ntmps14
  go_wp2
  go_ret
  exact ⟨by first | rfl | (simp [errW_none, errW_some] <;> rfl) | (simp [*, errW_none, errW_some] <;> rfl), by repeat (first | (with_reducible first | exact HB.out | apply below_alloc | apply pw_below_drewN | apply below_drew1) | exact HB.out)⟩
 rw [if_neg c5] at H
 have c5b0 : decide (1048576 < (l2.length : Int)) = false := decide_eq_false c5
 have c5b1 : decide (1048576 < l2.length) = false := decide_eq_false (by omega)
 clear c5
 replace H := Option.bind_eq_some_iff.mp H
 obtain ⟨t426, A60, H⟩ := H
 replace H : ((laws_toIntS.f k l2).bind fun t429 => ((spec_SavedBy.f k t426 a1 t429).bind fun bt432 => ((laws_toIntS.f k l0).bind fun t434 => ((laws_toIntS.f k l2).bind fun t437 => ((impl_SavedBy.f k t434 a1 t437).bind fun bt440 => (if bt440.1 = bt432.1 then (laws_FnExactSavedBy.j0 k l0 l2 t434 t437 (bt440.2 != bt432.2)) else (laws_FnExactSavedBy.j0 k l0 l2 t434 t437 true))))))) = some r := H
 have A6 := Aside0.mk A60
 clear A60
 replace H := Option.bind_eq_some_iff.mp H
 obtain ⟨t429, A70, H⟩ := H
 replace H : ((spec_SavedBy.f k t426 a1 t429).bind fun bt432 => ((laws_toIntS.f k l0).bind fun t434 => ((laws_toIntS.f k l2).bind fun t437 => ((impl_SavedBy.f k t434 a1 t437).bind fun bt440 => (if bt440.1 = bt432.1 then (laws_FnExactSavedBy.j0 k l0 l2 t434 t437 (bt440.2 != bt432.2)) else (laws_FnExactSavedBy.j0 k l0 l2 t434 t437 true)))))) = some r := H
 have A7 := Aside0.mk A70
 clear A70
 replace H := Option.bind_eq_some_iff.mp H
 obtain ⟨⟨t432, t433⟩, A80, H⟩ := H
 replace H : ((laws_toIntS.f k l0).bind fun t434 => ((laws_toIntS.f k l2).bind fun t437 => ((impl_SavedBy.f k t434 a1 t437).bind fun bt440 => (if bt440.1 = t432 then (laws_FnExactSavedBy.j0 k l0 l2 t434 t437 (bt440.2 != t433)) else (laws_FnExactSavedBy.j0 k l0 l2 t434 t437 true))))) = some r := H
 have A8 := Aside0.mk A80
 clear A80
 replace H := Option.bind_eq_some_iff.mp H
 obtain ⟨t434, A90, H⟩ := H
 replace H : ((laws_toIntS.f k l2).bind fun t437 => ((impl_SavedBy.f k t434 a1 t437).bind fun bt440 => (if bt440.1 = t432 then (laws_FnExactSavedBy.j0 k l0 l2 t434 t437 (bt440.2 != t433)) else (laws_FnExactSavedBy.j0 k l0 l2 t434 t437 true)))) = some r := H
 have A9 := Aside0.mk A90
 clear A90
 replace H := Option.bind_eq_some_iff.mp H
 obtain ⟨t437, A100, H⟩ := H
 replace H : ((impl_SavedBy.f k t434 a1 t437).bind fun bt440 => (if bt440.1 = t432 then (laws_FnExactSavedBy.j0 k l0 l2 t434 t437 (bt440.2 != t433)) else (laws_FnExactSavedBy.j0 k l0 l2 t434 t437 true))) = some r := H
 have A10 := Aside0.mk A100
 clear A100
 replace H := Option.bind_eq_some_iff.mp H
 obtain ⟨⟨t440, t441⟩, A110, H⟩ := H
 replace H : (if t440 = t432 then (laws_FnExactSavedBy.j0 k l0 l2 t434 t437 (t441 != t433)) else (laws_FnExactSavedBy.j0 k l0 l2 t434 t437 true)) = some r := H
 have A11 := Aside0.mk A110
 clear A110
 have HC12 := Aside0.mk H
 clear H
 go_enter Try.func14, Try.ntmps14
 go_upto_region 9 with (first | ((with_reducible refine gate_callee (f := 71) rfl ?_); refine goesL_ (some 21) rfl rfl Try.func71 (by kernel_rfl) rfl #[.slice A0 l0.length c0] rfl tm_ ?_; (with_reducible refine (laws_toIntS.calls k _ _ l0 t426 _ ?side1 ?side2 A6.out).mono ?_); (case side1 => exact ca HR0.out); (case side2 => exact HC0.out); rintro e w13 ⟨v427, rfl, ho0, hb⟩; refine ⟨_, rfl, ?_⟩; have HO428 := Aside0.mk (Kd.R_lower ho0 (below_size (hB HB))); replace HB := bst_ HB hb; clear hb ho0) | ((with_reducible refine gate_callee (f := 71) rfl ?_); refine goesL_ (some 24) rfl rfl Try.func71 (by kernel_rfl) rfl #[.slice A2 l2.length c2] rfl tm_ ?_; (with_reducible refine (laws_toIntS.calls k _ _ l2 t429 _ ?side1 ?side2 A7.out).mono ?_); (case side1 => exact ca (Kd.C_below HR2.out HB.out)); (case side2 => exact HC2.out); rintro e w14 ⟨v430, rfl, ho0, hb⟩; refine ⟨_, rfl, ?_⟩; have HO431 := Aside0.mk (Kd.R_lower (Kd.R_new' ho0 (rl_ HO428)) (below_size (hB HB))); replace HO428 := re_ HO428 ho0 hb; replace HB := bst_ HB hb; clear hb ho0; obtain ⟨Ao15, co15, eo15⟩ := Kd.R_slice HO428.out; subst eo15; obtain ⟨Ao16, co16, eo16⟩ := Kd.R_slice HO431.out; subst eo16) | ((with_reducible refine gate_callee (f := 76) rfl ?_); refine goesL_ (some 25) rfl rfl Try.func76 (by kernel_rfl) rfl #[.slice Ao15 t426.length co15, .int .i64 a1, .slice Ao16 t429.length co16] rfl tm_ ?_; (with_reducible refine (spec_SavedBy.calls k _ _ t426 a1 _ _ t429 t432 t433 _ ?side1 ?side2 ?side3 ?side4 A8.out).mono ?_); (case side1 => exact ca (Kd.R_reads' HO428.out).2.2); (case side2 => exact (Kd.R_reads' HO428.out).2.1); (case side3 => exact ca (Kd.R_reads' HO431.out).2.2); (case side4 => exact (Kd.R_reads' HO431.out).2.1); rintro e w17 ⟨rfl, hb⟩; refine ⟨_, rfl, ?_⟩; replace HO428 := rb_ HO428 hb; replace HO431 := rb_ HO431 hb; replace HB := bst_ HB hb; clear hb) | ((with_reducible refine gate_callee (f := 71) rfl ?_); refine goesL_ (some 29) rfl rfl Try.func71 (by kernel_rfl) rfl #[.slice A0 l0.length c0] rfl tm_ ?_; (with_reducible refine (laws_toIntS.calls k _ _ l0 t434 _ ?side1 ?side2 A9.out).mono ?_); (case side1 => exact ca (Kd.C_below HR0.out HB.out)); (case side2 => exact HC0.out); rintro e w18 ⟨v435, rfl, ho0, hb⟩; refine ⟨_, rfl, ?_⟩; have HO436 := Aside0.mk (Kd.R_lower (Kd.R_new' (Kd.R_new' ho0 (rl_ HO428)) (rl_ HO431)) (below_size (hB HB))); replace HO428 := re_ HO428 ho0 hb; replace HO431 := re_ HO431 ho0 hb; replace HB := bst_ HB hb; clear hb ho0) | ((with_reducible refine gate_callee (f := 71) rfl ?_); refine goesL_ (some 31) rfl rfl Try.func71 (by kernel_rfl) rfl #[.slice A2 l2.length c2] rfl tm_ ?_; (with_reducible refine (laws_toIntS.calls k _ _ l2 t437 _ ?side1 ?side2 A10.out).mono ?_); (case side1 => exact ca (Kd.C_below HR2.out HB.out)); (case side2 => exact HC2.out); rintro e w19 ⟨v438, rfl, ho0, hb⟩; refine ⟨_, rfl, ?_⟩; have HO439 := Aside0.mk (Kd.R_lower (Kd.R_new' (Kd.R_new' (Kd.R_new' ho0 (rl_ HO428)) (rl_ HO431)) (rl_ HO436)) (below_size (hB HB))); replace HO428 := re_ HO428 ho0 hb; replace HO431 := re_ HO431 ho0 hb; replace HO436 := re_ HO436 ho0 hb; replace HB := bst_ HB hb; clear hb ho0; obtain ⟨Ao20, co20, eo20⟩ := Kd.R_slice HO436.out; subst eo20; obtain ⟨Ao21, co21, eo21⟩ := Kd.R_slice HO439.out; subst eo21) | ((with_reducible refine gate_callee (f := 77) rfl ?_); refine goesL_ (some 36) rfl rfl Try.func77 (by kernel_rfl) rfl #[.slice Ao20 t434.length co20, .int .i64 a1, .slice Ao21 t437.length co21] rfl tm_ ?_; (with_reducible refine (impl_SavedBy.calls k _ _ t434 a1 _ _ t437 t440 t441 _ ?side1 ?side2 ?side3 ?side4 A11.out).mono ?_); (case side1 => exact ca (Kd.R_reads' HO436.out).2.2); (case side2 => exact (Kd.R_reads' HO436.out).2.1); (case side3 => exact ca (Kd.R_reads' HO439.out).2.2); (case side4 => exact (Kd.R_reads' HO439.out).2.1); rintro e w22 ⟨rfl, hb⟩; refine ⟨_, rfl, ?_⟩; replace HO428 := rb_ HO428 hb; replace HO431 := rb_ HO431 hb; replace HO436 := rb_ HO436 hb; replace HO439 := rb_ HO439 hb; replace HB := bst_ HB hb; clear hb))
 (try simp only [Act.put, List.setIfInBounds_toArray, List.set_cons_zero, List.set_cons_succ])
 go_cut [46] (fun v46 wc => ∃ (kq : Nat) (x46_11 : Bool), v46 = .bool x46_11 ∧ Aside0 (laws_FnExactSavedBy.j0 kq l0 l2 t434 t437 x46_11 = some r) ∧ Aside0 (kq ≤ k) ∧ Aside0 (Kd.R (Kd.int .i64) 3 wc w.heap.size (fun k_ => no_ (.slice Ao21 t437.length co21) k_) (.slice Ao20 t434.length co20) t434) ∧ Aside0 (Kd.R (Kd.int .i64) 3 wc w.heap.size (fun k_ => no_ (.slice Ao20 t434.length co20) k_) (.slice Ao21 t437.length co21) t437) ∧ Aside0 (Below w.heap.size w wc))
 case first =>
  have H := HC12.out
  clear HC12
  by_cases c23 : t440 = t432
  rotate_left
  ·rw [if_neg c23] at H
   have c23b0 : (t440 == t432) = false := beq_eq_false_iff_ne.mpr c23
   have c23b1 : (t440 != t432) = true := bne_iff_ne.mpr c23
   (first | rw [c23b0] | (simp only [i64_w, i32_w]; rw [c23b0]) | skip)
   have H' := Aside0.mk H
   clear H
   go_wp2
   go_meet
   case rel => exact ⟨_, (true), (by first | rfl | (simp; done) | (simp [*]; done)), H', ⟨by first | omega | exact Nat.le_refl _⟩, rm_ HO436 (fun _ hk => hk.2), rm_ HO439 (fun _ hk => hk.2), ⟨hB HB⟩⟩
  rw [if_pos c23] at H
  have c23b0 : (t440 == t432) = true := beq_iff_eq.mpr c23
  have c23b1 : (t440 != t432) = false := bne_eq_false_iff_eq.mpr c23
  clear c23
  (first | rw [c23b0] | (simp only [i64_w, i32_w]; rw [c23b0]) | skip)
  have H' := Aside0.mk H
  clear H
  go_wp2
  go_meet
  case rel => exact ⟨_, ((t441 != t433)), (by first | rfl | (simp; done) | (simp [*]; done)), H', ⟨by first | omega | exact Nat.le_refl _⟩, rm_ HO436 (fun _ hk => hk.2), rm_ HO439 (fun _ hk => hk.2), ⟨hB HB⟩⟩
 case rest =>
  clear HC12
  try clear c2
  try clear c4
  try clear c4b0
  try clear c4b1
  try clear c5
  try clear c5b0
  try clear c5b1
  obtain ⟨kq, x46_11, rfl, HA, HJ11, HO_9, HO_10, HB⟩ := hcut
  cases kq with
  | zero => exact absurd HA.out (by simp [laws_FnExactSavedBy.j0])
  | succ kj11 =>
   have H := HA.out
   clear HA
   simp only [laws_FnExactSavedBy.j0] at H
   by_cases c24 : x46_11 = true
   ·subst c24
    rw [if_pos rfl] at H
    obtain rfl := Option.some.inj H
    go_wp2
    go_ret
    exact ⟨by first | rfl | (simp [errW_none, errW_some] <;> rfl) | (simp [*, errW_none, errW_some] <;> rfl), by repeat (first | (with_reducible first | exact HB.out | apply below_alloc | apply pw_below_drewN | apply below_drew1) | exact HB.out)⟩
   replace c24 := Bool.eq_false_iff.mpr c24
   subst c24
   rw [if_neg (show ¬ (false = true) by decide)] at H
   replace H := Option.bind_eq_some_iff.mp H
   obtain ⟨t442, A250, H⟩ := H
   replace H : ((laws_eqIntS.f kj11 t434 t442).bind fun t445 => (if t445 = true then ((laws_toIntS.f kj11 l2).bind fun t446 => ((laws_eqIntS.f kj11 t437 t446).bind fun t449 => (if t449 = true then (some true) else (some false)))) else (some false))) = some r := H
   have A25 := Aside0.mk A250
   clear A250
   replace H := Option.bind_eq_some_iff.mp H
   obtain ⟨t445, A260, H⟩ := H
   replace H : (if t445 = true then ((laws_toIntS.f kj11 l2).bind fun t446 => ((laws_eqIntS.f kj11 t437 t446).bind fun t449 => (if t449 = true then (some true) else (some false)))) else (some false)) = some r := H
   have A26 := Aside0.mk A260
   clear A260
   by_cases c27 : t445 = true
   rotate_left
   ·replace c27 := Bool.eq_false_iff.mpr c27
    subst c27
    rw [if_neg (show ¬ (false = true) by decide)] at H
    obtain rfl := Option.some.inj H
    go_wp2_with (first | ((with_reducible refine gate_callee (f := 71) rfl ?_); refine goesL_ (some 49) rfl rfl Try.func71 (by kernel_rfl) rfl #[.slice A0 l0.length c0] rfl tm_ ?_; (with_reducible refine (laws_toIntS.calls kj11 _ _ l0 t442 _ ?side1 ?side2 A25.out).mono ?_); (case side1 => exact ca (Kd.C_below HR0.out HB.out)); (case side2 => exact HC0.out); rintro e w39 ⟨v443, rfl, ho0, hb⟩; refine ⟨_, rfl, ?_⟩; have HO444 := Aside0.mk (Kd.R_lower (Kd.R_new' (Kd.R_new' ho0 (rl_ HO_9)) (rl_ HO_10)) (below_size (hB HB))); replace HO_9 := re_ HO_9 ho0 hb; replace HO_10 := re_ HO_10 ho0 hb; replace HB := bst_ HB hb; clear hb ho0; obtain ⟨Ao40, co40, eo40⟩ := Kd.R_slice HO444.out; subst eo40) | ((with_reducible refine gate_callee (f := 19) rfl ?_); refine goesL_ (some 50) rfl rfl Try.func19 (by kernel_rfl) rfl #[.slice Ao20 t434.length co20, .slice Ao40 t442.length co40] rfl tm_ ?_; (with_reducible refine (laws_eqIntS.calls kj11 _ _ t434 _ _ t442 false _ ?side1 ?side2 ?side3 ?side4 A26.out).mono ?_); (case side1 => exact ca (Kd.R_reads' HO_9.out).2.2); (case side2 => exact (Kd.R_reads' HO_9.out).2.1); (case side3 => exact ca (Kd.R_reads' HO444.out).2.2); (case side4 => exact (Kd.R_reads' HO444.out).2.1); rintro e w' ⟨rfl, ⟨nd, rfl⟩⟩; refine ⟨_, rfl, ?_⟩))
    go_ret
    exact ⟨by first | rfl | (simp [errW_none, errW_some] <;> rfl) | (simp [*, errW_none, errW_some] <;> rfl), by repeat (first | (with_reducible first | exact HB.out | apply below_alloc | apply pw_below_drewN | apply below_drew1) | exact HB.out)⟩
   subst c27
   rw [if_pos rfl] at H
   replace H := Option.bind_eq_some_iff.mp H
   obtain ⟨t446, A280, H⟩ := H
   replace H : ((laws_eqIntS.f kj11 t437 t446).bind fun t449 => (if t449 = true then (some true) else (some false))) = some r := H
   have A28 := Aside0.mk A280
   clear A280
   replace H := Option.bind_eq_some_iff.mp H
   obtain ⟨t449, A290, H⟩ := H
   replace H : (if t449 = true then (some true) else (some false)) = some r := H
   have A29 := Aside0.mk A290
   clear A290
   by_cases c30 : t449 = true
   ·subst c30
    rw [if_pos rfl] at H
    obtain rfl := Option.some.inj H
    go_wp2_with (first | ((with_reducible refine gate_callee (f := 71) rfl ?_); refine goesL_ (some 49) rfl rfl Try.func71 (by kernel_rfl) rfl #[.slice A0 l0.length c0] rfl tm_ ?_; (with_reducible refine (laws_toIntS.calls kj11 _ _ l0 t442 _ ?side1 ?side2 A25.out).mono ?_); (case side1 => exact ca (Kd.C_below HR0.out HB.out)); (case side2 => exact HC0.out); rintro e w31 ⟨v443, rfl, ho0, hb⟩; refine ⟨_, rfl, ?_⟩; have HO444 := Aside0.mk (Kd.R_lower (Kd.R_new' (Kd.R_new' ho0 (rl_ HO_9)) (rl_ HO_10)) (below_size (hB HB))); replace HO_9 := re_ HO_9 ho0 hb; replace HO_10 := re_ HO_10 ho0 hb; replace HB := bst_ HB hb; clear hb ho0; obtain ⟨Ao32, co32, eo32⟩ := Kd.R_slice HO444.out; subst eo32) | ((with_reducible refine gate_callee (f := 19) rfl ?_); refine goesL_ (some 50) rfl rfl Try.func19 (by kernel_rfl) rfl #[.slice Ao20 t434.length co20, .slice Ao32 t442.length co32] rfl tm_ ?_; (with_reducible refine (laws_eqIntS.calls kj11 _ _ t434 _ _ t442 true _ ?side1 ?side2 ?side3 ?side4 A26.out).mono ?_); (case side1 => exact ca (Kd.R_reads' HO_9.out).2.2); (case side2 => exact (Kd.R_reads' HO_9.out).2.1); (case side3 => exact ca (Kd.R_reads' HO444.out).2.2); (case side4 => exact (Kd.R_reads' HO444.out).2.1); rintro e w' ⟨rfl, ⟨nd, rfl⟩⟩; refine ⟨_, rfl, ?_⟩) | ((with_reducible refine gate_callee (f := 71) rfl ?_); refine goesL_ (some 54) rfl rfl Try.func71 (by kernel_rfl) rfl #[.slice A2 l2.length c2] rfl tm_ ?_; (with_reducible refine (laws_toIntS.calls kj11 _ _ l2 t446 _ ?side1 ?side2 A28.out).mono ?_); (case side1 => exact ca (Kd.C_below HR2.out (hB HB))); (case side2 => exact HC2.out); rintro e w33 ⟨v447, rfl, ho0, hb⟩; refine ⟨_, rfl, ?_⟩; have HO448 := Aside0.mk (Kd.R_lower (Kd.R_new' (Kd.R_new' (Kd.R_new' ho0 (rl_ HO_9)) (rl_ HO_10)) (rl_ HO444)) (below_size (hB HB))); replace HO_9 := re_ HO_9 ho0 hb; replace HO_10 := re_ HO_10 ho0 hb; replace HO444 := re_ HO444 ho0 hb; replace HB := bst_ HB hb; clear hb ho0; obtain ⟨Ao34, co34, eo34⟩ := Kd.R_slice HO448.out; subst eo34) | ((with_reducible refine gate_callee (f := 19) rfl ?_); refine goesL_ (some 55) rfl rfl Try.func19 (by kernel_rfl) rfl #[.slice Ao21 t437.length co21, .slice Ao34 t446.length co34] rfl tm_ ?_; (with_reducible refine (laws_eqIntS.calls kj11 _ _ t437 _ _ t446 true _ ?side1 ?side2 ?side3 ?side4 A29.out).mono ?_); (case side1 => exact ca (Kd.R_reads' HO_10.out).2.2); (case side2 => exact (Kd.R_reads' HO_10.out).2.1); (case side3 => exact ca (Kd.R_reads' HO448.out).2.2); (case side4 => exact (Kd.R_reads' HO448.out).2.1); rintro e w' ⟨rfl, ⟨nd, rfl⟩⟩; refine ⟨_, rfl, ?_⟩))
    go_ret
    exact ⟨by first | rfl | (simp [errW_none, errW_some] <;> rfl) | (simp [*, errW_none, errW_some] <;> rfl), by repeat (first | (with_reducible first | exact HB.out | apply below_alloc | apply pw_below_drewN | apply below_drew1) | exact HB.out)⟩
   replace c30 := Bool.eq_false_iff.mpr c30
   subst c30
   rw [if_neg (show ¬ (false = true) by decide)] at H
   obtain rfl := Option.some.inj H
   go_wp2_with (first | ((with_reducible refine gate_callee (f := 71) rfl ?_); refine goesL_ (some 49) rfl rfl Try.func71 (by kernel_rfl) rfl #[.slice A0 l0.length c0] rfl tm_ ?_; (with_reducible refine (laws_toIntS.calls kj11 _ _ l0 t442 _ ?side1 ?side2 A25.out).mono ?_); (case side1 => exact ca (Kd.C_below HR0.out HB.out)); (case side2 => exact HC0.out); rintro e w35 ⟨v443, rfl, ho0, hb⟩; refine ⟨_, rfl, ?_⟩; have HO444 := Aside0.mk (Kd.R_lower (Kd.R_new' (Kd.R_new' ho0 (rl_ HO_9)) (rl_ HO_10)) (below_size (hB HB))); replace HO_9 := re_ HO_9 ho0 hb; replace HO_10 := re_ HO_10 ho0 hb; replace HB := bst_ HB hb; clear hb ho0; obtain ⟨Ao36, co36, eo36⟩ := Kd.R_slice HO444.out; subst eo36) | ((with_reducible refine gate_callee (f := 19) rfl ?_); refine goesL_ (some 50) rfl rfl Try.func19 (by kernel_rfl) rfl #[.slice Ao20 t434.length co20, .slice Ao36 t442.length co36] rfl tm_ ?_; (with_reducible refine (laws_eqIntS.calls kj11 _ _ t434 _ _ t442 true _ ?side1 ?side2 ?side3 ?side4 A26.out).mono ?_); (case side1 => exact ca (Kd.R_reads' HO_9.out).2.2); (case side2 => exact (Kd.R_reads' HO_9.out).2.1); (case side3 => exact ca (Kd.R_reads' HO444.out).2.2); (case side4 => exact (Kd.R_reads' HO444.out).2.1); rintro e w' ⟨rfl, ⟨nd, rfl⟩⟩; refine ⟨_, rfl, ?_⟩) | ((with_reducible refine gate_callee (f := 71) rfl ?_); refine goesL_ (some 54) rfl rfl Try.func71 (by kernel_rfl) rfl #[.slice A2 l2.length c2] rfl tm_ ?_; (with_reducible refine (laws_toIntS.calls kj11 _ _ l2 t446 _ ?side1 ?side2 A28.out).mono ?_); (case side1 => exact ca (Kd.C_below HR2.out (hB HB))); (case side2 => exact HC2.out); rintro e w37 ⟨v447, rfl, ho0, hb⟩; refine ⟨_, rfl, ?_⟩; have HO448 := Aside0.mk (Kd.R_lower (Kd.R_new' (Kd.R_new' (Kd.R_new' ho0 (rl_ HO_9)) (rl_ HO_10)) (rl_ HO444)) (below_size (hB HB))); replace HO_9 := re_ HO_9 ho0 hb; replace HO_10 := re_ HO_10 ho0 hb; replace HO444 := re_ HO444 ho0 hb; replace HB := bst_ HB hb; clear hb ho0; obtain ⟨Ao38, co38, eo38⟩ := Kd.R_slice HO448.out; subst eo38) | ((with_reducible refine gate_callee (f := 19) rfl ?_); refine goesL_ (some 55) rfl rfl Try.func19 (by kernel_rfl) rfl #[.slice Ao21 t437.length co21, .slice Ao38 t446.length co38] rfl tm_ ?_; (with_reducible refine (laws_eqIntS.calls kj11 _ _ t437 _ _ t446 false _ ?side1 ?side2 ?side3 ?side4 A29.out).mono ?_); (case side1 => exact ca (Kd.R_reads' HO_10.out).2.2); (case side2 => exact (Kd.R_reads' HO_10.out).2.1); (case side3 => exact ca (Kd.R_reads' HO448.out).2.2); (case side4 => exact (Kd.R_reads' HO448.out).2.1); rintro e w' ⟨rfl, ⟨nd, rfl⟩⟩; refine ⟨_, rfl, ?_⟩))
   go_ret
   exact ⟨by first | rfl | (simp [errW_none, errW_some] <;> rfl) | (simp [*, errW_none, errW_some] <;> rfl), by repeat (first | (with_reducible first | exact HB.out | apply below_alloc | apply pw_below_drewN | apply below_drew1) | exact HB.out)⟩

/-- THE ONE PURE STATEMENT of laws_FnExactSavedBy: yours. -/
def laws_FnExactSavedBy.Pure : Prop := ∀ (l0 : List Int) (a1 : Int) (l2 : List Int), l0.length ≤ maxLen → l0.length * 8 ≤ 140737488351232 → (∀ x ∈ l0, (Lit.int .i64 x).wf = true) → (Lit.int .i64 a1).wf = true → l2.length ≤ maxLen → l2.length * 8 ≤ 140737488351232 → (∀ x ∈ l2, (Lit.int .i64 x).wf = true) → ∃ k, laws_FnExactSavedBy.f k l0 a1 l2 = some true
theorem laws_FnExactSavedBy.walk (P : laws_FnExactSavedBy.Pure) (a0 : Option Addr) (len0 cap0 : Nat) (z0 : List Int) (a1 : Int) (a2 : Option Addr) (len2 cap2 : Nat) (z2 : List Int) (w : World) (w0 : (a0 = none ∧ len0 = 0 ∧ cap0 = 0 ∧ z0 = []) ∨ ∃ x, a0 = some x ∧ len0 ≤ cap0 ∧ cap0 ≤ maxLen ∧ z0.length = cap0 ∧ (∀ i, i < z0.length → w.cell? (x.add i) = some (.int .i64 (z0.getD i 0))) ∧ ∀ n ∈ z0, (Lit.int .i64 n).wf = true) (y0 : len0 * 8 ≤ 140737488351232) (w1 : (Lit.int .i64 a1).wf = true) (w2 : (a2 = none ∧ len2 = 0 ∧ cap2 = 0 ∧ z2 = []) ∨ ∃ x, a2 = some x ∧ len2 ≤ cap2 ∧ cap2 ≤ maxLen ∧ z2.length = cap2 ∧ (∀ i, i < z2.length → w.cell? (x.add i) = some (.int .i64 (z2.getD i 0))) ∧ ∀ n ∈ z2, (Lit.int .i64 n).wf = true) (y2 : len2 * 8 ≤ 140737488351232) :
  Calls Try.prog 14 #[.slice a0 len0 cap0, .int .i64 a1, .slice a2 len2 cap2] w fun e w' => e = .returned (.bool true) ∧ Below w.heap.size w w' := by
 obtain ⟨l0, rfl, hr0, hm0, hw0, hc0⟩ := ReadsInt.ofRowC w0
 obtain ⟨l2, rfl, hr2, hm2, hw2, hc2⟩ := ReadsInt.ofRowC w2
 obtain ⟨k, h⟩ := P l0 a1 l2 hm0 y0 hw0 w1 hm2 y2 hw2
 refine (laws_FnExactSavedBy.calls k _ _ l0 a1 _ _ l2 true w (Kd.C_of_reads (d := (0 : Int)) (h1 := fun _ => rfl) hr0) hc0 (Kd.C_of_reads (d := (0 : Int)) (h1 := fun _ => rfl) hr2) hc2 h).mono ?_
 rintro e w' ⟨rfl, hd⟩
 exact ⟨rfl, hd⟩

end Go.Proofs.Ytolncjkfcmbieaa.P
