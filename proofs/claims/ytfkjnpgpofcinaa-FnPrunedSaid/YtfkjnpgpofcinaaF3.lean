import Derived.Test.YtfkjnpgpofcinaaF0
import Derived.Test.YtfkjnpgpofcinaaF1
import Derived.Test.YtfkjnpgpofcinaaF2
namespace Go.Proofs.Ytfkjnpgpofcinaa.P
open Go.RowKit Go.Proofs.YtfkjnpgpofcinaaW.PrintWords Go.Proofs.YtfkjnpgpofcinaaW.PrintLast Go.Proofs.YtfkjnpgpofcinaaW.PrintMore
attribute [local go_sem] max2_int min2_int max_two min_two max_three min_three max_four min_four   -- for this text's walks alone
set_option linter.unusedVariables false
set_option linter.unusedSimpArgs false
attribute [local go_sem high] eqA45 eqA76 eqA83

mutual
def spec_l10Spread.l0 : Nat → List Int → List (S76) → List (S76) → Option ((List (S76)))
 | 0, _, _, _ => none
 | k + 1, x0, x5, x6 => if (x6.length : Int) > 0 then (if 0 < (x6.length : Int) then (if 1 ≤ (x6.length : Int) then ((spec_l10Joined.f k x0 ((rd_T76 x6 0).f1)).bind fun t187 => (spec_l10Spread.l1 k x0 x5 (x6.drop (1 : Int).toNat) t187 (t187.length : Int) 0 ((rd_T76 x6 0).f0) ((rd_T76 x6 0).f1))) else (none)) else (none)) else (some x5)
def spec_l10Spread.l1 : Nat → List Int → List (S76) → List (S76) → List Int → Int → Int → Int → Int → Option ((List (S76)))
 | 0, _, _, _, _, _, _, _, _ => none
 | k + 1, x0, x5, x6, x25, x26, x27, x184000, x184001 => if x27 < x26 then (if 0 ≤ x27 then (if x27 < (x25.length : Int) then (if (rd x25 x27) = x184000 then (spec_l10Spread.l1 k x0 x5 x6 x25 x26 (wrap64 (x27 + 1)) x184000 x184001) else (if x5.length < 8796093022208 then (if x6.length < 8796093022208 then (spec_l10Spread.l1 k x0 (x5 ++ [(⟨x184001, rd x25 x27⟩ : S76)]) (x6 ++ [(⟨x184001, rd x25 x27⟩ : S76)]) x25 x26 (wrap64 (x27 + 1)) x184000 x184001) else (none)) else (none))) else (none)) else (none)) else (spec_l10Spread.l0 k x0 x5 x6)
end
def spec_l10Spread.f (k : Nat) (l0 : List Int) (a1 : Int) : Option ((List (S76))) := spec_l10Spread.l0 k l0 ([] : List (S76)) (([(⟨(-1), a1⟩ : S76)] : List (S76)))
theorem spec_l10Spread.mono_l : ∀ k, (∀ y0 y1 y2, LeO (spec_l10Spread.l0 k y0 y1 y2) (spec_l10Spread.l0 (k + 1) y0 y1 y2)) ∧ (∀ y0 y1 y2 y3 y4 y5 y6 y7, LeO (spec_l10Spread.l1 k y0 y1 y2 y3 y4 y5 y6 y7) (spec_l10Spread.l1 (k + 1) y0 y1 y2 y3 y4 y5 y6 y7))
 | 0 => ⟨fun _ _ _ r h => by simp [spec_l10Spread.l0] at h, fun _ _ _ _ _ _ _ _ r h => by simp [spec_l10Spread.l1] at h⟩
 | k + 1 => by
  obtain ⟨ih0, ih1⟩ := spec_l10Spread.mono_l k
  refine ⟨?_, ?_⟩
  ·intro y0 y1 y2
   unfold spec_l10Spread.l0
   repeat' first
   | (with_reducible exact ih0 _ _ _)
   | (with_reducible exact ih1 _ _ _ _ _ _ _ _)
   | (with_reducible exact spec_l10Joined.mono _ _ _)
   | (with_reducible exact LeO.refl _)
   | (with_reducible exact LeO.none _)
   | (with_reducible refine LeO.ite ?_ ?_)
   | (with_reducible refine LeO.bind ?_ (fun _ => ?_))
  ·intro y0 y1 y2 y3 y4 y5 y6 y7
   unfold spec_l10Spread.l1
   repeat' first
   | (with_reducible exact ih0 _ _ _)
   | (with_reducible exact ih1 _ _ _ _ _ _ _ _)
   | (with_reducible exact spec_l10Joined.mono _ _ _)
   | (with_reducible exact LeO.refl _)
   | (with_reducible exact LeO.none _)
   | (with_reducible refine LeO.ite ?_ ?_)
   | (with_reducible refine LeO.bind ?_ (fun _ => ?_))
theorem spec_l10Spread.mono : ∀ a0 a1 k, LeO (spec_l10Spread.f k a0 a1) (spec_l10Spread.f (k + 1) a0 a1) := by
 intro a0 a1 k
 obtain ⟨ih0, ih1⟩ := spec_l10Spread.mono_l k
 unfold spec_l10Spread.f
 repeat' first
   | (with_reducible exact ih0 _ _ _)
   | (with_reducible exact ih1 _ _ _ _ _ _ _ _)
   | (with_reducible exact spec_l10Joined.mono _ _ _)
   | (with_reducible exact LeO.refl _)
   | (with_reducible exact LeO.none _)
   | (with_reducible refine LeO.ite ?_ ?_)
   | (with_reducible refine LeO.bind ?_ (fun _ => ?_))
set_option maxHeartbeats 8000000 in
set_option maxRecDepth 100000 in
theorem spec_l10Spread.calls (k : Nat) (A0 : Option Addr) (c0 : Nat) (l0 : List Int) (a1 : Int) (r : List (S76)) (w : World) (hr0 : Kd.C (Kd.int .i64) w A0 l0.length l0) (hc0 : l0.length ≤ c0) (h : spec_l10Spread.f k l0 a1 = some r) :
  Calls Try.prog 110 #[.slice A0 l0.length c0, .int .i64 a1] w fun e w' => ∃ v0_ : Value, e = .returned (v0_) ∧ Kd.R k76 76 w' w.heap.size (fun _ => True) v0_ r ∧ Below w.heap.size w w' := by
 have hu76 := Try.underlying76
 have HR0 := Aside0.mk hr0
 have HC0 := Aside0.mk hc0
 clear hr0 hc0
 have HB := Aside0.mk (Below.refl w.heap.size w)
 have H : (spec_l10Spread.l0 k l0 ([] : List (S76)) (([(⟨(-1), a1⟩ : S76)] : List (S76)))) = some r := h
 clear h
 obtain ⟨y179, hy179⟩ : ∃ y_ : List (S76), y_ = (([(⟨(-1), a1⟩ : S76)] : List (S76))) := ⟨_, rfl⟩
 replace H : (spec_l10Spread.l0 k l0 ([] : List (S76)) y179) = some r := by first | (rw [hy179]; with_reducible exact H) | (have H2_ := (Option.bind_some _ _).symm.trans H; rw [hy179]; with_reducible exact H2_) | (have H2_ := (Option.bind_some _ _).symm.trans H; with_reducible exact H2_) | with_reducible exact H | (rw [hy179]; exact H) | exact H
 have Ny179 := Aside0.mk hy179
 clear hy179
 have H' := Aside0.mk H
 clear H
 go_enter Try.func110, Try.ntmps110
 go_wp2_with (first | ((with_reducible refine gate_dst (N := 13) rfl ?_); refine Kd.R_lit k76 _ 76 ?hg (N := 13) ?hd (xs := ([(⟨(-1), a1⟩ : S76)] : List (S76))) (inner := [.int .i64 (-1), .int .i64 a1]) (ok := fun _ => True) (okp := fun _ => True) ?hr ?hp (fun _ hk => hk) trivial (Below.refl _ _) (Nat.le_refl _) (by simp) ?_; (case hd => rfl); (case hg => rfl); (case hr => first | (go_simp; done) | (go_simp; rfl)); (case hp => exact (Reps.c2 (show Kd.M k76 _ _ _ (⟨(-1), a1⟩ : S76) [.int .i64 (-1), .int .i64 a1] from (k76_mkM _ _ _ (⟨(-1), a1⟩ : S76) )) (Reps.none _ _))); intro v180 w3 ho4 hb hg_ hnew_; clear hg_ hnew_; (first | rw [← Ny179.out] at ho4 | (simp only [Int.reduceToNat] at ho4; rw [← Ny179.out] at ho4)); have HO181 := Aside0.mk (Kd.R_lower ho4 (below_size (hB HB))); replace HB := bst_ HB hb; clear hb ho4))
 go_loopg [5, 6] k (fun kq v5 v6 w' => ∃ (x5_1 : List (S76)) (x6_1 : List (S76)), Aside0 (spec_l10Spread.l0 kq l0 x5_1 x6_1 = some r) ∧ Aside0 (kq ≤ k) ∧ Aside0 (Kd.R k76 76 w' w.heap.size (fun k_ => no_ v6 k_) v5 x5_1) ∧ Aside0 (Kd.Q k76 76 w' w.heap.size (fun k_ => no_ v5 k_) v6 x6_1) ∧ Aside0 (Below w.heap.size w w'))
 case atStart => exact ⟨(([] : List (S76))), (y179), H', ⟨Nat.le_refl _⟩, ⟨by first | exact Kd.R_nil _ _ _ _ _ | exact Kd.N_nil _ _ _ _ _ | exact Kd.V_nil _ _ _ _ _ | exact Kd.Q_nil _ _ _ _ _ | exact Kd.S_nil _ _ _ _ _⟩, ⟨Kd.Q_of_R (Aside0.out (rm_ HO181 (fun _ hk => (by simp [Value.ownBlock]))))⟩, ⟨hB HB⟩⟩
 case round =>
  clear H'
  try clear c2
  obtain ⟨x5_1, x6_1, HA, HK1, HO_5, HO_6, HB⟩ := hrel
  cases gk with
  | zero => exact absurd HA.out (by simp [spec_l10Spread.l0])
  | succ k1 =>
   have H := HA.out
   clear HA
   simp only [spec_l10Spread.l0] at H
   by_cases c5 : (x6_1.length : Int) > 0
   rotate_left
   ·rw [if_neg c5] at H
    have c5b0 : decide (0 < (x6_1.length : Int)) = false := decide_eq_false c5
    have c5b1 : decide (0 < x6_1.length) = false := decide_eq_false (by omega)
    clear c5
    obtain rfl := Option.some.inj H
    obtain ⟨Ao31, co31, eo31, _⟩ := Kd.Q_slice HO_6.out
    subst eo31
    go_wp2
    go_ret
    exact ⟨_, by first | rfl | (simp [errW_none, errW_some] <;> rfl) | (simp [*, errW_none, errW_some] <;> rfl), by (with_reducible repeat (first | apply Kd.R_alloc | apply Kd.R_drewN | apply Kd.R_drew)); exact Kd.R_mono HO_5.out (fun _ hk => trivial), by repeat (first | (with_reducible first | exact HB.out | apply below_alloc | apply pw_below_drewN | apply below_drew1) | exact HB.out)⟩
   rw [if_pos c5] at H
   have c5b0 : decide (0 < (x6_1.length : Int)) = true := decide_eq_true c5
   have c5b1 : decide (0 < x6_1.length) = true := decide_eq_true (by omega)
   clear c5
   by_cases c6 : 0 < (x6_1.length : Int)
   rotate_left
   ·rw [if_neg c6] at H
    exact absurd H (by simp)
   rw [if_pos c6] at H
   have c6b0 : decide (0 < (x6_1.length : Int)) = true := decide_eq_true c6
   have c6b1 : decide (0 < x6_1.length) = true := decide_eq_true (by omega)
   clear c6
   by_cases c7 : 1 ≤ (x6_1.length : Int)
   rotate_left
   ·rw [if_neg c7] at H
    exact absurd H (by simp)
   rw [if_pos c7] at H
   have c7b0 := eq_true c7
   have c7b1 : decide (1 ≤ (x6_1.length : Int)) = true := decide_eq_true c7
   clear c7
   obtain ⟨y184, hy184⟩ : ∃ y_ : List (S76), y_ = (x6_1.drop (1 : Int).toNat) := ⟨_, rfl⟩
   replace H : ((spec_l10Joined.f k1 l0 ((rd_T76 x6_1 0).f1)).bind fun t187 => (spec_l10Spread.l1 k1 l0 x5_1 y184 t187 (t187.length : Int) 0 ((rd_T76 x6_1 0).f0) ((rd_T76 x6_1 0).f1))) = some r := by first | (rw [hy184]; with_reducible exact H) | (have H2_ := (Option.bind_some _ _).symm.trans H; rw [hy184]; with_reducible exact H2_) | (have H2_ := (Option.bind_some _ _).symm.trans H; with_reducible exact H2_) | with_reducible exact H | (rw [hy184]; exact H) | exact H
   have Ny184 := Aside0.mk hy184
   clear hy184
   replace H := Option.bind_eq_some_iff.mp H
   obtain ⟨t187, A80, H⟩ := H
   replace H : (spec_l10Spread.l1 k1 l0 x5_1 y184 t187 (t187.length : Int) 0 ((rd_T76 x6_1 0).f0) ((rd_T76 x6_1 0).f1)) = some r := H
   have A8 := Aside0.mk A80
   clear A80
   have H' := Aside0.mk H
   clear H
   obtain ⟨Ao9, co9, eo9, _⟩ := Kd.Q_slice HO_6.out
   subst eo9
   have p182 : 0 ≤ (0 : Int) := (by omega)
   have q182 : 0 < (x6_1.length : Int) := of_decide_eq_true (by first | (with_reducible assumption) | assumption)
   obtain ⟨ad182, e182, hx182_0, hx182_1⟩ := at_T76 (Kd.Q_reads' HO_6.out).2.2 0 p182 q182
   cases e182
   have qi182 : (0 < x6_1.length) = True := eq_true (by omega)
   (try rw [show ((0 : Int)).toNat = 0 from rfl] at hx182_0)
   (try rw [show 0 * 2 = 0 from rfl] at hx182_0)
   (try rw [Addr.add_zero'] at hx182_0)
   (try rw [show ((0 : Int)).toNat = 0 from rfl] at hx182_1)
   (try rw [show 0 * 2 = 0 from rfl] at hx182_1)
   (try rw [Addr.add_zero'] at hx182_1)
   replace p182 := eq_true p182
   replace q182 := eq_true q182
   go_wp2_with (first | ((with_reducible refine gate_dst (N := 7) rfl ?_); refine box_event ?hg (N := 7) ?hd (cs := #[.int .i64 0, .int .i64 0]) (t := 76) ?hr ?_; (case hd => rfl); (case hg => rfl); (case hr => first | (go_simp; done) | (go_simp; rfl)); intro gb183 hg w10 hbox hb; have BK183 := Aside0.mk (hbox); have GW183 := gw_ hg HB; have GE183 := gw_ hg HB; replace HO_5 := Aside0.mk (Kd.R_below (Kd.R_elderB (ra HO_5.out) gb183 (Nat.le_of_eq hg.symm)) hb); replace HO_6 := Aside0.mk (Kd.Q_below (Kd.Q_elderB (by (with_reducible repeat (first | apply Kd.Q_alloc | apply Kd.Q_drewN | apply Kd.Q_drew)); exact HO_6.out) gb183 (Nat.le_of_eq hg.symm)) hb); replace HB := bst_ HB hb; clear hb hbox hg; have hcz11_0 : w10.cell? ⟨gb183, 0, none⟩ = some (.int .i64 0) := bc_ BK183 0; have hcz11_1 : w10.cell? ⟨gb183, 1, none⟩ = some (.int .i64 0) := bc_ BK183 1; have hfz11_0 := blk_frozen BK183.out 0; have hfz11_1 := blk_frozen BK183.out 1) | ((with_reducible refine gate_store (t := 76) (p := 7) rfl ?_); refine store_event (t := 76) (p := 7) (v := ?vo_w12) (w1 := ((w10.setCell ⟨gb183, 0, none⟩ (.int .i64 ((rd_T76 x6_1 0).f0))).setCell ⟨gb183, 1, none⟩ (.int .i64 ((rd_T76 x6_1 0).f1)))) ?hg ?ho ?hn ?hr ?_; (case ho => rfl); (case hg => rfl); (case hn => rfl); (case hr => first | (go_simp; done) | (go_simp; rfl)); intro w12 hw; have n0_ : Aside0 (Kd.R k76 76 w12 w.heap.size (fun k_ => some k_ ≠ (.slice (some ad182) x6_1.length co9 : Value).ownBlock ∧ k_ ≠ gb183) u5 x5_1) := ⟨(by rw [hw]; exact (by (with_reducible repeat (first | apply Kd.R_alloc | apply Kd.R_drewN | apply Kd.R_drew)); exact Kd.R_mono (Kd.R_far (p := ⟨gb183, 1, none⟩) (Kd.R_far (p := ⟨gb183, 0, none⟩) (Kd.R_mono HO_5.out (fun k_ hk => (⟨hk, hk.2⟩ : _ ∧ k_ ≠ gb183))) (fun _ hk => hk.2) (.int .i64 ((rd_T76 x6_1 0).f0))) (fun _ hk => hk.2) (.int .i64 ((rd_T76 x6_1 0).f1))) (fun _ hk => hk.1)))⟩; have n1_ : Aside0 (Kd.Q k76 76 w12 w.heap.size (fun k_ => some k_ ≠ (u5 : Value).ownBlock ∧ k_ ≠ gb183) (.slice (some ad182) x6_1.length co9) x6_1) := ⟨(by rw [hw]; exact (by (with_reducible repeat (first | apply Kd.Q_alloc | apply Kd.Q_drewN | apply Kd.Q_drew)); exact Kd.Q_mono (Kd.Q_far (p := ⟨gb183, 1, none⟩) (Kd.Q_far (p := ⟨gb183, 0, none⟩) (Kd.Q_mono HO_6.out (fun k_ hk => (⟨hk, hk.2⟩ : _ ∧ k_ ≠ gb183))) (fun _ hk => hk.2) (.int .i64 ((rd_T76 x6_1 0).f0))) (fun _ hk => hk.2) (.int .i64 ((rd_T76 x6_1 0).f1))) (fun _ hk => hk.1)))⟩; have n2_ : Aside0 (w12.heap[gb183]? = some (.cells #[.int .i64 ((rd_T76 x6_1 0).f0), .int .i64 ((rd_T76 x6_1 0).f1)] 76 (0, 0))) := ⟨(by rw [hw]; exact (by (with_reducible repeat (first | refine blk_drewN ?_ _ | refine blk_drew ?_ | refine blk_alloc ?_ _)); refine blk_put (cs := #[.int .i64 ((rd_T76 x6_1 0).f0), .int .i64 0]) ?_ 1 _ rfl; (with_reducible repeat (first | refine blk_drewN ?_ _ | refine blk_drew ?_ | refine blk_alloc ?_ _)); refine blk_put (cs := #[.int .i64 0, .int .i64 0]) ?_ 0 _ rfl; (with_reducible repeat (first | refine blk_drewN ?_ _ | refine blk_drew ?_ | refine blk_alloc ?_ _)); exact BK183.out))⟩; have n3_ : Aside0 (Below w.heap.size w w12) := ⟨(by rw [hw]; exact (hB HB))⟩; clear hw; clear HO_5; clear HO_6; clear BK183; clear HB; have HO_5 := n0_; have HO_6 := n1_; have BK183 := n2_; have HB := n3_; clear n0_ n1_ n2_ n3_; have q13 : (1 : Int) ≤ ((x6_1.length : Int) : Int) := of_decide_eq_true (by first | (with_reducible assumption) | assumption); obtain ⟨i013, hi013, _, hsz13, _⟩ := info_parts info76; have hcut13 := cut_from (P := Try.prog) 23 76 .i64 Try.underlying23 hi013 2 hsz13 (some ad182) x6_1.length co9 1 (by omega) q13; have hr13 := Kd.Q_drop (k := (1 : Int).toNat) HO_6.out (by omega); obtain ⟨A13, hA13⟩ : ∃ A1, A1 = (if co9 = (1 : Int).toNat then (some ad182) else ((some ad182) : Option Addr).map (·.add ((1 : Int).toNat * 2))) := ⟨_, rfl⟩; obtain ⟨c13, hc13⟩ : ∃ c1, c1 = co9 - (1 : Int).toNat := ⟨_, rfl⟩; have hy13 : y184.length = x6_1.length - (1 : Int).toNat := (by rw [Ny184.out, List.length_drop]); rw [← Ny184.out] at hr13; rw [← hy13, ← hA13, ← hc13] at hcut13; replace hr13 : Kd.Q k76 76 w12 w.heap.size (fun k_ => some k_ ≠ (u5 : Value).ownBlock ∧ k_ ≠ gb183) (.slice A13 y184.length c13) y184 := (by rw [hA13, hc13, hy13]; exact hr13); have HE13 : Aside0 ((Value.slice A13 y184.length c13).ownBlock = (.slice (some ad182) x6_1.length co9 : Value).ownBlock) := ⟨by rw [hA13]; split <;> (cases ((some ad182) : Option Addr) <;> rfl)⟩; clear hy13 hi013 hsz13 HO_6 hA13 hc13; have HO186 := Aside0.mk hr13; clear hr13; replace q13 := eq_true q13; have n_ := Aside0.mk (Kd.R_mono (ok' := fun k_ => (no_ (.slice A13 y184.length c13) k_ ∧ k_ ≠ gb183)) HO_5.out (fun k_ hk => ⟨(fun h_ => hk.1 (h_.trans HE13.out)), hk.2⟩)); clear HO_5; have HO_5 := n_; clear n_; have hcz14_0 : w12.cell? ⟨gb183, 0, none⟩ = some (.int .i64 ((rd_T76 x6_1 0).f0)) := bc_ BK183 0; have hcz14_1 : w12.cell? ⟨gb183, 1, none⟩ = some (.int .i64 ((rd_T76 x6_1 0).f1)) := bc_ BK183 1; have hfz14_0 := blk_frozen BK183.out 0; have hfz14_1 := blk_frozen BK183.out 1) | ((with_reducible refine gate_callee (f := 101) rfl ?_); refine goesL_ (some 25) rfl rfl Try.func101 (by kernel_rfl) rfl #[.slice A0 l0.length c0, .int .i64 ((rd_T76 x6_1 0).f1)] rfl tm_ ?_; (with_reducible refine (spec_l10Joined.calls k1 _ _ l0 ((rd_T76 x6_1 0).f1) t187 _ ?side1 ?side2 A8.out).mono ?_); (case side1 => exact ca (Kd.C_below HR0.out HB.out)); (case side2 => exact HC0.out); rintro e w15 ⟨v188, rfl, ho0, hb⟩; refine ⟨_, rfl, ?_⟩; have HO189 := Aside0.mk (Kd.R_lower ho0 (below_size (hB HB))); replace HO_5 := rb_ HO_5 hb; replace HO186 := Aside0.mk (Kd.Q_below (by (with_reducible repeat (first | apply Kd.Q_alloc | apply Kd.Q_drewN | apply Kd.Q_drew)); exact HO186.out) hb); replace BK183 := bb_ BK183 hb; replace HB := bst_ HB hb; clear hb ho0; obtain ⟨Ao16, co16, eo16⟩ := Kd.R_slice HO189.out; subst eo16))
   go_loopg [5, 6, 27] k1 (fun kq v5 v6 v27 w' => ∃ (x5_2 : List (S76)) (x6_2 : List (S76)) (x27_2 : Int), v27 = .int .i64 x27_2 ∧ Aside0 (spec_l10Spread.l1 kq l0 x5_2 x6_2 t187 (t187.length : Int) x27_2 ((rd_T76 x6_1 0).f0) ((rd_T76 x6_1 0).f1) = some r) ∧ Aside0 (kq ≤ k1) ∧ Aside0 (Kd.R k76 76 w' w.heap.size (fun k_ => no_ v6 k_ ∧ k_ ≠ gb183) v5 x5_2) ∧ Aside0 (Kd.Q k76 76 w' w.heap.size (fun k_ => no_ v5 k_ ∧ k_ ≠ gb183) v6 x6_2) ∧ Aside0 (Kd.R (Kd.int .i64) 3 w' w.heap.size (fun _ => True) (.slice Ao16 t187.length co16) t187) ∧ Aside0 (w'.heap[gb183]? = some (.cells #[.int .i64 ((rd_T76 x6_1 0).f0), .int .i64 ((rd_T76 x6_1 0).f1)] 76 (0, 0))) ∧ Aside0 (Below w.heap.size w w'))
   case atStart => exact ⟨(x5_1), (y184), (0), (by first | rfl | (simp; done) | (simp [*]; done)), H', ⟨Nat.le_refl _⟩, ⟨ra HO_5.out⟩, ⟨by (with_reducible repeat (first | apply Kd.Q_alloc | apply Kd.Q_drewN | apply Kd.Q_drew)); exact HO186.out⟩, ⟨ra HO189.out⟩, ⟨by (with_reducible repeat (first | refine blk_drewN ?_ _ | refine blk_drew ?_ | refine blk_alloc ?_ _)); exact BK183.out⟩, ⟨hB HB⟩⟩
   case round =>
    clear H'
    try clear c1
    try clear c2
    try clear c5
    try clear c5b0
    try clear c5b1
    try clear c6
    try clear c6b0
    try clear c6b1
    try clear c7
    try clear c7b0
    try clear c7b1
    try clear c13
    try clear q13
    try clear hcz11_0
    try clear hcz11_1
    try clear hcz14_0
    try clear hcz14_1
    try clear hfz11_0
    try clear hfz11_1
    try clear hfz14_0
    try clear hfz14_1
    try clear hx182_0
    try clear hx182_1
    try clear p182
    try clear q13
    try clear q182
    obtain ⟨x5_2, x6_2, x27_2, rfl, HA, HK2, HO_5, HO_6, HO_25, BK183, HB⟩ := hrel
    cases gk with
    | zero => exact absurd HA.out (by simp [spec_l10Spread.l1])
    | succ k2 =>
     have H := HA.out
     clear HA
     simp only [spec_l10Spread.l1] at H
     by_cases c17 : x27_2 < (t187.length : Int)
     rotate_left
     ·rw [if_neg c17] at H
      have c17b0 : decide (x27_2 < (t187.length : Int)) = false := decide_eq_false c17
      clear c17
      have H' := Aside0.mk H
      clear H
      go_wp2
      go_roundg k2
      case measure => have := HK1.out; have := HK2.out; omega
      case rel => exact ⟨(x5_2), (x6_2), H', ⟨by have := HK1.out; have := HK2.out; omega⟩, rm_ HO_5 (fun _ hk => hk.1), ⟨by (with_reducible repeat (first | apply Kd.Q_alloc | apply Kd.Q_drewN | apply Kd.Q_drew)); exact Kd.Q_mono HO_6.out (fun _ hk => hk.1)⟩, ⟨hB HB⟩⟩
     rw [if_pos c17] at H
     have c17b0 : decide (x27_2 < (t187.length : Int)) = true := decide_eq_true c17
     clear c17
     by_cases c18 : 0 ≤ x27_2
     rotate_left
     ·rw [if_neg c18] at H
      exact absurd H (by simp)
     rw [if_pos c18] at H
     have c18b0 : decide (0 ≤ x27_2) = true := decide_eq_true c18
     clear c18
     by_cases c19 : x27_2 < (t187.length : Int)
     rotate_left
     ·rw [if_neg c19] at H
      exact absurd H (by simp)
     rw [if_pos c19] at H
     have c19b0 : decide (x27_2 < (t187.length : Int)) = true := decide_eq_true c19
     clear c19
     by_cases c20 : (rd t187 x27_2) = ((rd_T76 x6_1 0).f0)
     ·rw [if_pos c20] at H
      have c20b0 : ((rd t187 x27_2) == ((rd_T76 x6_1 0).f0)) = true := beq_iff_eq.mpr c20
      have c20b1 : ((rd t187 x27_2) != ((rd_T76 x6_1 0).f0)) = false := bne_eq_false_iff_eq.mpr c20
      clear c20
      have H' := Aside0.mk H
      clear H
      have p190 : 0 ≤ (x27_2 : Int) := of_decide_eq_true (by first | (with_reducible assumption) | assumption)
      have q190 : x27_2 < (t187.length : Int) := of_decide_eq_true (by first | (with_reducible assumption) | assumption)
      obtain ⟨ad190, e190, hx190_0⟩ := Kd.at_int (Kd.R_reads' HO_25.out).2.2 x27_2 p190 q190
      cases e190
      replace p190 := eq_true p190
      replace q190 := eq_true q190
      have hcz21_0 : wr.cell? ⟨gb183, 0, none⟩ = some (.int .i64 ((rd_T76 x6_1 0).f0)) := bc_ BK183 0
      have hcz21_1 : wr.cell? ⟨gb183, 1, none⟩ = some (.int .i64 ((rd_T76 x6_1 0).f1)) := bc_ BK183 1
      have hfz21_0 := blk_frozen BK183.out 0
      have hfz21_1 := blk_frozen BK183.out 1
      go_wp2
      go_roundg k2
      case measure => have := HK1.out; have := HK2.out; omega
      case rel => exact ⟨(x5_2), (x6_2), (wrap64 (x27_2 + 1)), (by first | rfl | (simp; done) | (simp [*]; done)), H', ⟨by have := HK1.out; have := HK2.out; omega⟩, ⟨ra HO_5.out⟩, ⟨by (with_reducible repeat (first | apply Kd.Q_alloc | apply Kd.Q_drewN | apply Kd.Q_drew)); exact HO_6.out⟩, ⟨ra HO_25.out⟩, ⟨by (with_reducible repeat (first | refine blk_drewN ?_ _ | refine blk_drew ?_ | refine blk_alloc ?_ _)); exact BK183.out⟩, ⟨hB HB⟩⟩
     rw [if_neg c20] at H
     have c20b0 : ((rd t187 x27_2) == ((rd_T76 x6_1 0).f0)) = false := beq_eq_false_iff_ne.mpr c20
     have c20b1 : ((rd t187 x27_2) != ((rd_T76 x6_1 0).f0)) = true := bne_iff_ne.mpr c20
     by_cases c22 : x5_2.length < 8796093022208
     rotate_left
     ·rw [if_neg c22] at H
      exact absurd H (by simp)
     rw [if_pos c22] at H
     have LMc22 := Aside0.mk c22
     clear c22
     obtain ⟨y192, hy192⟩ : ∃ y_ : List (S76), y_ = (x5_2 ++ [(⟨((rd_T76 x6_1 0).f1), rd t187 x27_2⟩ : S76)]) := ⟨_, rfl⟩
     replace H : (if x6_2.length < 8796093022208 then (spec_l10Spread.l1 k2 l0 y192 (x6_2 ++ [(⟨((rd_T76 x6_1 0).f1), rd t187 x27_2⟩ : S76)]) t187 (t187.length : Int) (wrap64 (x27_2 + 1)) ((rd_T76 x6_1 0).f0) ((rd_T76 x6_1 0).f1)) else (none)) = some r := by first | (rw [hy192]; with_reducible exact H) | (have H2_ := (Option.bind_some _ _).symm.trans H; rw [hy192]; with_reducible exact H2_) | (have H2_ := (Option.bind_some _ _).symm.trans H; with_reducible exact H2_) | with_reducible exact H | (rw [hy192]; exact H) | exact H
     have Ny192 := Aside0.mk hy192
     clear hy192
     by_cases c23 : x6_2.length < 8796093022208
     rotate_left
     ·rw [if_neg c23] at H
      exact absurd H (by simp)
     rw [if_pos c23] at H
     have LMc23 := Aside0.mk c23
     clear c23
     obtain ⟨y195, hy195⟩ : ∃ y_ : List (S76), y_ = (x6_2 ++ [(⟨((rd_T76 x6_1 0).f1), rd t187 x27_2⟩ : S76)]) := ⟨_, rfl⟩
     replace H : (spec_l10Spread.l1 k2 l0 y192 y195 t187 (t187.length : Int) (wrap64 (x27_2 + 1)) ((rd_T76 x6_1 0).f0) ((rd_T76 x6_1 0).f1)) = some r := by first | (rw [hy195]; with_reducible exact H) | (have H2_ := (Option.bind_some _ _).symm.trans H; rw [hy195]; with_reducible exact H2_) | (have H2_ := (Option.bind_some _ _).symm.trans H; with_reducible exact H2_) | with_reducible exact H | (rw [hy195]; exact H) | exact H
     have Ny195 := Aside0.mk hy195
     clear hy195
     have H' := Aside0.mk H
     clear H
     have p190 : 0 ≤ (x27_2 : Int) := of_decide_eq_true (by first | (with_reducible assumption) | assumption)
     have q190 : x27_2 < (t187.length : Int) := of_decide_eq_true (by first | (with_reducible assumption) | assumption)
     obtain ⟨ad190, e190, hx190_0⟩ := Kd.at_int (Kd.R_reads' HO_25.out).2.2 x27_2 p190 q190
     cases e190
     replace p190 := eq_true p190
     replace q190 := eq_true q190
     have hcz24_0 : wr.cell? ⟨gb183, 0, none⟩ = some (.int .i64 ((rd_T76 x6_1 0).f0)) := bc_ BK183 0
     have hcz24_1 : wr.cell? ⟨gb183, 1, none⟩ = some (.int .i64 ((rd_T76 x6_1 0).f1)) := bc_ BK183 1
     have hfz24_0 := blk_frozen BK183.out 0
     have hfz24_1 := blk_frozen BK183.out 1
     go_wp2_with (first | ((with_reducible refine gate_dst (N := 10) rfl ?_); refine box_event ?hg (N := 10) ?hd (cs := #[.int .i64 0, .int .i64 0]) (t := 76) ?hr ?_; (case hd => rfl); (case hg => rfl); (case hr => first | (go_simp; done) | (go_simp; rfl)); intro gb191 hg w25 hbox hb; have BK191 := Aside0.mk (hbox); have GW191 := gw_ hg HB; have GE191 := gw_ hg HB; have NB183_191 := nl_ hg BK183; have NB191_183 := ng_ hg BK183; replace HO_5 := Aside0.mk (Kd.R_below (Kd.R_elderB (ra HO_5.out) gb191 (Nat.le_of_eq hg.symm)) hb); replace HO_6 := Aside0.mk (Kd.Q_below (Kd.Q_elderB (by (with_reducible repeat (first | apply Kd.Q_alloc | apply Kd.Q_drewN | apply Kd.Q_drew)); exact HO_6.out) gb191 (Nat.le_of_eq hg.symm)) hb); replace HO_25 := rb_ HO_25 hb; replace BK183 := bb_ BK183 hb; replace HB := bst_ HB hb; clear hb hbox hg; have hnb26 := NB191_183.out; have hnc26 := NB183_191.out; have hcz27_0 : w25.cell? ⟨gb191, 0, none⟩ = some (.int .i64 0) := bc_ BK191 0; have hcz27_1 : w25.cell? ⟨gb191, 1, none⟩ = some (.int .i64 0) := bc_ BK191 1; have hfz27_0 := blk_frozen BK191.out 0; have hfz27_1 := blk_frozen BK191.out 1) | ((with_reducible refine gate_builtin (b := .append) (xs := #[.tmp 39, .tmp 41]) rfl ?_); at_builtin; refine Kd.R_append k76 (w0 := w) w.heap.size rfl (.tmp 39) (.tmp 41) 23 76 (.agg #[(.int .i64 0), (.int .i64 0)]) 16 rfl Try.underlying23 info76 rfl (by decide) (by omega) u5 x5_2 (⟨((rd_T76 x6_1 0).f1), rd t187 x27_2⟩ : S76) [.int .i64 ((rd_T76 x6_1 0).f1), .int .i64 (rd t187 x27_2)] (fun k_ => some k_ ≠ (u6 : Value).ownBlock ∧ k_ ≠ gb183 ∧ k_ ≠ gb191) (fun _ => False) rfl (by first | (go_simp; done) | (go_simp; rfl)) ?aP (fun _ hk => hk.elim) ?aF ?aO ?aB ?aS ?aL ?_; (case aP => exact k76_mkM _ _ _ (⟨((rd_T76 x6_1 0).f1), rd t187 x27_2⟩ : S76)); (case aB => exact (hB HB)); (case aF => exact (fun k_ hk => ⟨Kd.fresh' (Kd.Q_lt (by (with_reducible repeat (first | apply Kd.Q_alloc | apply Kd.Q_drewN | apply Kd.Q_drew)); exact (Kd.Q_mono (Kd.Q_far (p := ⟨gb191, 1, none⟩) (Kd.Q_far (p := ⟨gb191, 0, none⟩) (Kd.Q_mono HO_6.out (fun k_ hk => (⟨hk, hk.2⟩ : _ ∧ k_ ≠ gb191))) (fun _ hk => hk.2) (.int .i64 ((rd_T76 x6_1 0).f1))) (fun _ hk => hk.2) (.int .i64 (rd t187 x27_2))) (fun _ h_ => h_.1)))) k_ hk, Kd.freshB (g := gb183) (o := .cells #[.int .i64 ((rd_T76 x6_1 0).f0), .int .i64 ((rd_T76 x6_1 0).f1)] 76 (0, 0)) (bx BK183) k_ hk, Kd.freshB (g := gb191) (o := .cells #[.int .i64 ((rd_T76 x6_1 0).f1), .int .i64 (rd t187 x27_2)] 76 (0, 0)) (by (with_reducible repeat (first | refine blk_drewN ?_ _ | refine blk_drew ?_ | refine blk_alloc ?_ _)); refine blk_put (cs := #[.int .i64 ((rd_T76 x6_1 0).f1), .int .i64 0]) ?_ 1 _ rfl; (with_reducible repeat (first | refine blk_drewN ?_ _ | refine blk_drew ?_ | refine blk_alloc ?_ _)); refine blk_put (cs := #[.int .i64 0, .int .i64 0]) ?_ 0 _ rfl; (with_reducible repeat (first | refine blk_drewN ?_ _ | refine blk_drew ?_ | refine blk_alloc ?_ _)); exact BK191.out) k_ hk⟩)); (case aO => exact (by (with_reducible repeat (first | apply Kd.R_alloc | apply Kd.R_drewN | apply Kd.R_drew)); exact Kd.R_mono (Kd.R_far (p := ⟨gb191, 1, none⟩) (Kd.R_far (p := ⟨gb191, 0, none⟩) (Kd.R_mono HO_5.out (fun k_ hk => (⟨hk, hk.2⟩ : _ ∧ k_ ≠ gb191))) (fun _ hk => hk.2) (.int .i64 ((rd_T76 x6_1 0).f1))) (fun _ hk => hk.2) (.int .i64 (rd t187 x27_2))) (fun _ hk => ⟨hk.1.1.1, ⟨hk.1.1.2, hk.1.2⟩⟩))); (case aS => exact (below_size (hB HB))); (case aL => have := LMc22.out; omega); intro v193 w28 ho hb hg hat; rw [← Ny192.out] at ho; have HO194 := Aside0.mk (ho); replace HO_6 := Aside0.mk (Kd.Q_after (ok := (fun k_ => k_ ≠ gb183 ∧ k_ ≠ gb191)) (by (with_reducible repeat (first | apply Kd.Q_alloc | apply Kd.Q_drewN | apply Kd.Q_drew)); exact Kd.Q_mono (Kd.Q_far (p := ⟨gb191, 1, none⟩) (Kd.Q_far (p := ⟨gb191, 0, none⟩) (Kd.Q_mono HO_6.out (fun k_ hk => (⟨hk, hk.2⟩ : _ ∧ k_ ≠ gb191))) (fun _ hk => hk.2) (.int .i64 ((rd_T76 x6_1 0).f1))) (fun _ hk => hk.2) (.int .i64 (rd t187 x27_2))) (fun _ hk => ⟨⟨hk.1.1.2, hk.1.2⟩, hk.1.1.1⟩)) hg hat); replace HO_25 := Aside0.mk (Kd.R_over' (by (with_reducible repeat (first | apply Kd.R_alloc | apply Kd.R_drewN | apply Kd.R_drew)); exact (Kd.R_mono (Kd.R_far (p := ⟨gb191, 1, none⟩) (Kd.R_far (p := ⟨gb191, 0, none⟩) (Kd.R_types HO_25.out BK191.out (by decide)) (fun _ hk => hk.2) (.int .i64 ((rd_T76 x6_1 0).f1))) (fun _ hk => hk.2) (.int .i64 (rd t187 x27_2))) (fun _ h_ => h_.1))) (Kd.R_typed (by (with_reducible repeat (first | apply Kd.R_alloc | apply Kd.R_drewN | apply Kd.R_drew)); exact (Kd.R_mono (Kd.R_far (p := ⟨gb191, 1, none⟩) (Kd.R_far (p := ⟨gb191, 0, none⟩) (Kd.R_mono HO_5.out (fun k_ hk => (⟨hk, hk.2⟩ : _ ∧ k_ ≠ gb191))) (fun _ hk => hk.2) (.int .i64 ((rd_T76 x6_1 0).f1))) (fun _ hk => hk.2) (.int .i64 (rd t187 x27_2))) (fun _ h_ => h_.1)))) (by decide) hg); replace BK183 := Aside0.mk (blk_grown (g := gb183) (o := .cells #[.int .i64 ((rd_T76 x6_1 0).f0), .int .i64 ((rd_T76 x6_1 0).f1)] 76 (0, 0)) (bx BK183) hg (Kd.R_away HO_5.out (fun _ hk => hk.1.2))); replace BK191 := Aside0.mk (blk_grown (g := gb191) (o := .cells #[.int .i64 ((rd_T76 x6_1 0).f1), .int .i64 (rd t187 x27_2)] 76 (0, 0)) (by (with_reducible repeat (first | refine blk_drewN ?_ _ | refine blk_drew ?_ | refine blk_alloc ?_ _)); refine blk_put (cs := #[.int .i64 ((rd_T76 x6_1 0).f1), .int .i64 0]) ?_ 1 _ rfl; (with_reducible repeat (first | refine blk_drewN ?_ _ | refine blk_drew ?_ | refine blk_alloc ?_ _)); refine blk_put (cs := #[.int .i64 0, .int .i64 0]) ?_ 0 _ rfl; (with_reducible repeat (first | refine blk_drewN ?_ _ | refine blk_drew ?_ | refine blk_alloc ?_ _)); exact BK191.out) hg (Kd.R_away HO_5.out (fun _ hk => hk.2))); replace HB := Aside0.mk (hb); clear HO_5; clear ho hb hg hat; have hcz29_0 : w28.cell? ⟨gb191, 0, none⟩ = some (.int .i64 ((rd_T76 x6_1 0).f1)) := bc_ BK191 0; have hcz29_1 : w28.cell? ⟨gb191, 1, none⟩ = some (.int .i64 (rd t187 x27_2)) := bc_ BK191 1; have hfz29_0 := blk_frozen BK191.out 0; have hfz29_1 := blk_frozen BK191.out 1) | ((with_reducible refine gate_builtin (b := .append) (xs := #[.tmp 43, .tmp 45]) rfl ?_); at_builtin; refine Kd.Q_append k76 (w0 := w) w.heap.size rfl (.tmp 43) (.tmp 45) 23 76 (.agg #[(.int .i64 0), (.int .i64 0)]) 16 rfl Try.underlying23 info76 rfl (by decide) (by omega) u6 x6_2 (⟨((rd_T76 x6_1 0).f1), rd t187 x27_2⟩ : S76) [.int .i64 ((rd_T76 x6_1 0).f1), .int .i64 (rd t187 x27_2)] (fun k_ => no_ v193 k_ ∧ k_ ≠ gb183 ∧ k_ ≠ gb191) (fun _ => False) rfl rfl ?aP (fun _ hk => hk.elim) ?aF ?aO ?aB ?aS ?aL ?_; (case aP => exact k76_mkM _ _ _ (⟨((rd_T76 x6_1 0).f1), rd t187 x27_2⟩ : S76)); (case aB => exact (hB HB)); (case aF => exact (fun k_ hk => ⟨Kd.fresh' (rl_ HO194) k_ hk, Kd.freshB (g := gb183) (o := .cells #[.int .i64 ((rd_T76 x6_1 0).f0), .int .i64 ((rd_T76 x6_1 0).f1)] 76 (0, 0)) (ba BK183.out) k_ hk, Kd.freshB (g := gb191) (o := .cells #[.int .i64 ((rd_T76 x6_1 0).f1), .int .i64 (rd t187 x27_2)] 76 (0, 0)) (ba BK191.out) k_ hk⟩)); (case aO => exact (by (with_reducible repeat (first | apply Kd.Q_alloc | apply Kd.Q_drewN | apply Kd.Q_drew)); exact Kd.Q_mono HO_6.out (fun _ hk => ⟨hk.2, hk.1⟩))); (case aS => exact (below_size (hB HB))); (case aL => have := LMc23.out; omega); intro v196 w30 ho hb hg hat; rw [← Ny195.out] at ho; have HO197 := Aside0.mk (ho); replace HO_25 := Aside0.mk (Kd.R_over' (ra HO_25.out) (Kd.Q_typed (by (with_reducible repeat (first | apply Kd.Q_alloc | apply Kd.Q_drewN | apply Kd.Q_drew)); exact HO_6.out)) (by decide) hg); replace BK183 := Aside0.mk (blk_grown (g := gb183) (o := .cells #[.int .i64 ((rd_T76 x6_1 0).f0), .int .i64 ((rd_T76 x6_1 0).f1)] 76 (0, 0)) (ba BK183.out) hg (Kd.Q_away HO_6.out (fun _ hk => hk.1.1))); replace BK191 := Aside0.mk (blk_grown (g := gb191) (o := .cells #[.int .i64 ((rd_T76 x6_1 0).f1), .int .i64 (rd t187 x27_2)] 76 (0, 0)) (ba BK191.out) hg (Kd.Q_away HO_6.out (fun _ hk => hk.1.2))); replace HO194 := Aside0.mk (Kd.R_after (ok := (fun k_ => k_ ≠ gb183 ∧ k_ ≠ gb191)) (rm_ HO194 (fun _ hk => ⟨hk.2, hk.1⟩)).out hg hat); replace HB := Aside0.mk (hb); clear HO_6; clear ho hb hg hat))
     go_roundg k2
     case measure => have := HK1.out; have := HK2.out; omega
     case rel => exact ⟨(y192), (y195), (wrap64 (x27_2 + 1)), (by first | rfl | (simp; done) | (simp [*]; done)), H', ⟨by have := HK1.out; have := HK2.out; omega⟩, rm_ HO194 (fun _ hk => ⟨hk.2, hk.1.1⟩), ⟨by (with_reducible repeat (first | apply Kd.Q_alloc | apply Kd.Q_drewN | apply Kd.Q_drew)); exact Kd.Q_mono HO197.out (fun _ hk => ⟨hk.1, hk.2.1⟩)⟩, ⟨ra HO_25.out⟩, ⟨by (with_reducible repeat (first | refine blk_drewN ?_ _ | refine blk_drew ?_ | refine blk_alloc ?_ _)); exact BK183.out⟩, ⟨hB HB⟩⟩

mutual
def spec_l14Hops.l0 : Nat → List Int → List Int → List (S76) → List (S76) → Int → Int → Option ((List (S76)))
 | 0, _, _, _, _, _, _ => none
 | k + 1, x0, x2, x7, x15, x16, x17 => if x17 < x16 then (if 0 ≤ x17 then (if x17 < (x15.length : Int) then ((spec_l14Behind.f k x0 ((rd_T76 x15 x17).f0) ((rd_T76 x15 x17).f1)).bind fun t203 => (spec_l14Hops.l1 k x0 x2 x7 false x15 x16 x17 t203 (t203.length : Int) 0 ((rd_T76 x15 x17).f0) ((rd_T76 x15 x17).f1))) else (none)) else (none)) else (some x7)
def spec_l14Hops.l1 : Nat → List Int → List Int → List (S76) → Bool → List (S76) → Int → Int → List Int → Int → Int → Int → Int → Option ((List (S76)))
 | 0, _, _, _, _, _, _, _, _, _, _, _, _ => none
 | k + 1, x0, x2, x7, x10, x15, x16, x17, x26, x27, x28, x203000, x203001 => if x28 < x27 then (if 0 ≤ x28 then (if x28 < (x26.length : Int) then (if x10 = true then (spec_l14Hops.l1 k x0 x2 x7 true x15 x16 x17 x26 x27 (wrap64 (x28 + 1)) x203000 x203001) else ((spec_l1Has.f k x2 (rd x26 x28)).bind fun t207 => (spec_l14Hops.l1 k x0 x2 x7 t207 x15 x16 x17 x26 x27 (wrap64 (x28 + 1)) x203000 x203001))) else (none)) else (none)) else (if x10 = true then (if x7.length < 8796093022208 then (spec_l14Hops.l0 k x0 x2 (x7 ++ [(⟨x203000, x203001⟩ : S76)]) x15 x16 (wrap64 (x17 + 1))) else (none)) else (spec_l14Hops.l0 k x0 x2 x7 x15 x16 (wrap64 (x17 + 1))))
end
def spec_l14Hops.f (k : Nat) (l0 : List Int) (a1 : Int) (l2 : List Int) : Option ((List (S76))) := (spec_l10Spread.f k l0 a1).bind fun t198 => (spec_l14Hops.l0 k l0 l2 ([] : List (S76)) t198 (t198.length : Int) 0)
theorem spec_l14Hops.mono_l : ∀ k, (∀ y0 y1 y2 y3 y4 y5, LeO (spec_l14Hops.l0 k y0 y1 y2 y3 y4 y5) (spec_l14Hops.l0 (k + 1) y0 y1 y2 y3 y4 y5)) ∧ (∀ y0 y1 y2 y3 y4 y5 y6 y7 y8 y9 y10 y11, LeO (spec_l14Hops.l1 k y0 y1 y2 y3 y4 y5 y6 y7 y8 y9 y10 y11) (spec_l14Hops.l1 (k + 1) y0 y1 y2 y3 y4 y5 y6 y7 y8 y9 y10 y11))
 | 0 => ⟨fun _ _ _ _ _ _ r h => by simp [spec_l14Hops.l0] at h, fun _ _ _ _ _ _ _ _ _ _ _ _ r h => by simp [spec_l14Hops.l1] at h⟩
 | k + 1 => by
  obtain ⟨ih0, ih1⟩ := spec_l14Hops.mono_l k
  refine ⟨?_, ?_⟩
  ·intro y0 y1 y2 y3 y4 y5
   unfold spec_l14Hops.l0
   repeat' first
   | (with_reducible exact ih0 _ _ _ _ _ _)
   | (with_reducible exact ih1 _ _ _ _ _ _ _ _ _ _ _ _)
   | (with_reducible exact spec_l10Spread.mono _ _ _)
   | (with_reducible exact spec_l14Behind.mono _ _ _ _)
   | (with_reducible exact spec_l1Has.mono _ _ _)
   | (with_reducible exact LeO.refl _)
   | (with_reducible exact LeO.none _)
   | (with_reducible refine LeO.ite ?_ ?_)
   | (with_reducible refine LeO.bind ?_ (fun _ => ?_))
  ·intro y0 y1 y2 y3 y4 y5 y6 y7 y8 y9 y10 y11
   unfold spec_l14Hops.l1
   repeat' first
   | (with_reducible exact ih0 _ _ _ _ _ _)
   | (with_reducible exact ih1 _ _ _ _ _ _ _ _ _ _ _ _)
   | (with_reducible exact spec_l10Spread.mono _ _ _)
   | (with_reducible exact spec_l14Behind.mono _ _ _ _)
   | (with_reducible exact spec_l1Has.mono _ _ _)
   | (with_reducible exact LeO.refl _)
   | (with_reducible exact LeO.none _)
   | (with_reducible refine LeO.ite ?_ ?_)
   | (with_reducible refine LeO.bind ?_ (fun _ => ?_))
theorem spec_l14Hops.mono : ∀ a0 a1 a2 k, LeO (spec_l14Hops.f k a0 a1 a2) (spec_l14Hops.f (k + 1) a0 a1 a2) := by
 intro a0 a1 a2 k
 obtain ⟨ih0, ih1⟩ := spec_l14Hops.mono_l k
 unfold spec_l14Hops.f
 repeat' first
   | (with_reducible exact ih0 _ _ _ _ _ _)
   | (with_reducible exact ih1 _ _ _ _ _ _ _ _ _ _ _ _)
   | (with_reducible exact spec_l10Spread.mono _ _ _)
   | (with_reducible exact spec_l14Behind.mono _ _ _ _)
   | (with_reducible exact spec_l1Has.mono _ _ _)
   | (with_reducible exact LeO.refl _)
   | (with_reducible exact LeO.none _)
   | (with_reducible refine LeO.ite ?_ ?_)
   | (with_reducible refine LeO.bind ?_ (fun _ => ?_))
set_option maxHeartbeats 8000000 in
set_option maxRecDepth 100000 in
theorem spec_l14Hops.calls (k : Nat) (A0 : Option Addr) (c0 : Nat) (l0 : List Int) (a1 : Int) (A2 : Option Addr) (c2 : Nat) (l2 : List Int) (r : List (S76)) (w : World) (hr0 : Kd.C (Kd.int .i64) w A0 l0.length l0) (hc0 : l0.length ≤ c0) (hr2 : Kd.C (Kd.int .i64) w A2 l2.length l2) (hc2 : l2.length ≤ c2) (h : spec_l14Hops.f k l0 a1 l2 = some r) :
  Calls Try.prog 76 #[.slice A0 l0.length c0, .int .i64 a1, .slice A2 l2.length c2] w fun e w' => ∃ v0_ : Value, e = .returned (v0_) ∧ Kd.R k76 76 w' w.heap.size (fun _ => True) v0_ r ∧ Below w.heap.size w w' := by
 have hu76 := Try.underlying76
 have HR0 := Aside0.mk hr0
 have HC0 := Aside0.mk hc0
 clear hr0 hc0
 have HR2 := Aside0.mk hr2
 have HC2 := Aside0.mk hc2
 clear hr2 hc2
 have HB := Aside0.mk (Below.refl w.heap.size w)
 have H : ((spec_l10Spread.f k l0 a1).bind fun t198 => (spec_l14Hops.l0 k l0 l2 ([] : List (S76)) t198 (t198.length : Int) 0)) = some r := h
 clear h
 replace H := Option.bind_eq_some_iff.mp H
 obtain ⟨t198, A40, H⟩ := H
 replace H : (spec_l14Hops.l0 k l0 l2 ([] : List (S76)) t198 (t198.length : Int) 0) = some r := H
 have A4 := Aside0.mk A40
 clear A40
 have H' := Aside0.mk H
 clear H
 go_enter Try.func76, Try.ntmps76
 go_wp2_with (first | ((with_reducible refine gate_callee (f := 110) rfl ?_); refine goesL_ (some 15) rfl rfl Try.func110 (by kernel_rfl) rfl #[.slice A0 l0.length c0, .int .i64 a1] rfl tm_ ?_; (with_reducible refine (spec_l10Spread.calls k _ _ l0 a1 t198 _ ?side1 ?side2 A4.out).mono ?_); (case side1 => exact ca HR0.out); (case side2 => exact HC0.out); rintro e w5 ⟨v199, rfl, ho0, hb⟩; refine ⟨_, rfl, ?_⟩; have HO200 := Aside0.mk (Kd.R_lower ho0 (below_size (hB HB))); replace HB := bst_ HB hb; clear hb ho0; obtain ⟨Ao6, co6, eo6⟩ := Kd.R_slice HO200.out; subst eo6))
 go_loopg [7, 17] k (fun kq v7 v17 w' => ∃ (x7_1 : List (S76)) (x17_1 : Int), v17 = .int .i64 x17_1 ∧ Aside0 (spec_l14Hops.l0 kq l0 l2 x7_1 t198 (t198.length : Int) x17_1 = some r) ∧ Aside0 (kq ≤ k) ∧ Aside0 (Kd.R k76 76 w' w.heap.size (fun k_ => no_ (.slice Ao6 t198.length co6) k_) v7 x7_1) ∧ Aside0 (Kd.R k76 76 w' w.heap.size (fun k_ => no_ v7 k_) (.slice Ao6 t198.length co6) t198) ∧ Aside0 (Below w.heap.size w w'))
 case atStart => exact ⟨(([] : List (S76))), (0), (by first | rfl | (simp; done) | (simp [*]; done)), H', ⟨Nat.le_refl _⟩, ⟨by first | exact Kd.R_nil _ _ _ _ _ | exact Kd.N_nil _ _ _ _ _ | exact Kd.V_nil _ _ _ _ _ | exact Kd.Q_nil _ _ _ _ _ | exact Kd.S_nil _ _ _ _ _⟩, ⟨by (with_reducible repeat (first | apply Kd.R_alloc | apply Kd.R_drewN | apply Kd.R_drew)); exact Kd.R_mono HO200.out (fun _ hk => (by simp [Value.ownBlock]))⟩, ⟨hB HB⟩⟩
 case round =>
  clear H'
  try clear c2
  obtain ⟨x7_1, x17_1, rfl, HA, HK1, HO_7, HO_15, HB⟩ := hrel
  cases gk with
  | zero => exact absurd HA.out (by simp [spec_l14Hops.l0])
  | succ k1 =>
   have H := HA.out
   clear HA
   simp only [spec_l14Hops.l0] at H
   by_cases c7 : x17_1 < (t198.length : Int)
   rotate_left
   ·rw [if_neg c7] at H
    have c7b0 : decide (x17_1 < (t198.length : Int)) = false := decide_eq_false c7
    clear c7
    obtain rfl := Option.some.inj H
    go_wp2
    go_ret
    exact ⟨_, by first | rfl | (simp [errW_none, errW_some] <;> rfl) | (simp [*, errW_none, errW_some] <;> rfl), by (with_reducible repeat (first | apply Kd.R_alloc | apply Kd.R_drewN | apply Kd.R_drew)); exact Kd.R_mono HO_7.out (fun _ hk => trivial), by repeat (first | (with_reducible first | exact HB.out | apply below_alloc | apply pw_below_drewN | apply below_drew1) | exact HB.out)⟩
   rw [if_pos c7] at H
   have c7b0 : decide (x17_1 < (t198.length : Int)) = true := decide_eq_true c7
   clear c7
   by_cases c8 : 0 ≤ x17_1
   rotate_left
   ·rw [if_neg c8] at H
    exact absurd H (by simp)
   rw [if_pos c8] at H
   have c8b0 : decide (0 ≤ x17_1) = true := decide_eq_true c8
   clear c8
   by_cases c9 : x17_1 < (t198.length : Int)
   rotate_left
   ·rw [if_neg c9] at H
    exact absurd H (by simp)
   rw [if_pos c9] at H
   have c9b0 : decide (x17_1 < (t198.length : Int)) = true := decide_eq_true c9
   clear c9
   replace H := Option.bind_eq_some_iff.mp H
   obtain ⟨t203, A100, H⟩ := H
   replace H : (spec_l14Hops.l1 k1 l0 l2 x7_1 false t198 (t198.length : Int) x17_1 t203 (t203.length : Int) 0 ((rd_T76 t198 x17_1).f0) ((rd_T76 t198 x17_1).f1)) = some r := H
   have A10 := Aside0.mk A100
   clear A100
   have H' := Aside0.mk H
   clear H
   have p201 : 0 ≤ (x17_1 : Int) := of_decide_eq_true (by first | (with_reducible assumption) | assumption)
   have q201 : x17_1 < (t198.length : Int) := of_decide_eq_true (by first | (with_reducible assumption) | assumption)
   obtain ⟨ad201, e201, hx201_0, hx201_1⟩ := at_T76 (Kd.R_reads' HO_15.out).2.2 x17_1 p201 q201
   cases e201
   replace p201 := eq_true p201
   replace q201 := eq_true q201
   go_wp2_with (first | ((with_reducible refine gate_dst (N := 9) rfl ?_); refine box_event ?hg (N := 9) ?hd (cs := #[.int .i64 0, .int .i64 0]) (t := 76) ?hr ?_; (case hd => rfl); (case hg => rfl); (case hr => first | (go_simp; done) | (go_simp; rfl)); intro gb202 hg w11 hbox hb; have BK202 := Aside0.mk (hbox); have GW202 := gw_ hg HB; have GE202 := gw_ hg HB; replace HO_7 := Aside0.mk (Kd.R_below (Kd.R_elderB (ra HO_7.out) gb202 (Nat.le_of_eq hg.symm)) hb); replace HO_15 := Aside0.mk (Kd.R_below (Kd.R_elderB (ra HO_15.out) gb202 (Nat.le_of_eq hg.symm)) hb); replace HB := bst_ HB hb; clear hb hbox hg; have hcz12_0 : w11.cell? ⟨gb202, 0, none⟩ = some (.int .i64 0) := bc_ BK202 0; have hcz12_1 : w11.cell? ⟨gb202, 1, none⟩ = some (.int .i64 0) := bc_ BK202 1; have hfz12_0 := blk_frozen BK202.out 0; have hfz12_1 := blk_frozen BK202.out 1) | ((with_reducible refine gate_callee (f := 102) rfl ?_); refine goesL_ (some 26) rfl rfl Try.func102 (by kernel_rfl) rfl #[.slice A0 l0.length c0, .int .i64 ((rd_T76 t198 x17_1).f0), .int .i64 ((rd_T76 t198 x17_1).f1)] rfl tm_ ?_; (with_reducible refine (spec_l14Behind.calls k1 _ _ l0 ((rd_T76 t198 x17_1).f0) ((rd_T76 t198 x17_1).f1) t203 _ ?side1 ?side2 A10.out).mono ?_); (case side1 => exact Kd.C_below HR0.out (hB HB)); (case side2 => exact HC0.out); rintro e w13 ⟨v204, rfl, ho0, hb⟩; refine ⟨_, rfl, ?_⟩; have HO205 := Aside0.mk (Kd.R_lower ho0 (below_size (hB HB))); replace HO_7 := Aside0.mk (Kd.R_below (ra (Kd.R_mono (Kd.R_far (p := ⟨gb202, 1, none⟩) (Kd.R_far (p := ⟨gb202, 0, none⟩) (Kd.R_mono HO_7.out (fun k_ hk => (⟨hk, hk.2⟩ : _ ∧ k_ ≠ gb202))) (fun _ hk => hk.2) (.int .i64 ((rd_T76 t198 x17_1).f0))) (fun _ hk => hk.2) (.int .i64 ((rd_T76 t198 x17_1).f1))) (fun _ h_ => h_.1))) hb); replace HO_15 := Aside0.mk (Kd.R_below (ra (Kd.R_mono (Kd.R_far (p := ⟨gb202, 1, none⟩) (Kd.R_far (p := ⟨gb202, 0, none⟩) (Kd.R_mono HO_15.out (fun k_ hk => (⟨hk, hk.2⟩ : _ ∧ k_ ≠ gb202))) (fun _ hk => hk.2) (.int .i64 ((rd_T76 t198 x17_1).f0))) (fun _ hk => hk.2) (.int .i64 ((rd_T76 t198 x17_1).f1))) (fun _ h_ => h_.1))) hb); replace BK202 := Aside0.mk (blk_below (g := gb202) (o := .cells #[.int .i64 ((rd_T76 t198 x17_1).f0), .int .i64 ((rd_T76 t198 x17_1).f1)] 76 (0, 0)) (by (with_reducible repeat (first | refine blk_drewN ?_ _ | refine blk_drew ?_ | refine blk_alloc ?_ _)); refine blk_put (cs := #[.int .i64 ((rd_T76 t198 x17_1).f0), .int .i64 0]) ?_ 1 _ rfl; (with_reducible repeat (first | refine blk_drewN ?_ _ | refine blk_drew ?_ | refine blk_alloc ?_ _)); refine blk_put (cs := #[.int .i64 0, .int .i64 0]) ?_ 0 _ rfl; (with_reducible repeat (first | refine blk_drewN ?_ _ | refine blk_drew ?_ | refine blk_alloc ?_ _)); exact BK202.out) hb); replace HB := bst_ HB hb; clear hb ho0; obtain ⟨Ao14, co14, eo14⟩ := Kd.R_slice HO205.out; subst eo14))
   go_loopg [10, 28] k1 (fun kq v10 v28 w' => ∃ (x10_2 : Bool) (x28_2 : Int), v10 = .bool x10_2 ∧ v28 = .int .i64 x28_2 ∧ Aside0 (spec_l14Hops.l1 kq l0 l2 x7_1 x10_2 t198 (t198.length : Int) x17_1 t203 (t203.length : Int) x28_2 ((rd_T76 t198 x17_1).f0) ((rd_T76 t198 x17_1).f1) = some r) ∧ Aside0 (kq ≤ k1) ∧ Aside0 (Kd.R k76 76 w' w.heap.size (fun k_ => some k_ ≠ ((.slice (some ad201) t198.length co6) : Value).ownBlock ∧ k_ ≠ gb202) u7 x7_1) ∧ Aside0 (Kd.R k76 76 w' w.heap.size (fun k_ => some k_ ≠ (u7 : Value).ownBlock ∧ k_ ≠ gb202) (.slice (some ad201) t198.length co6) t198) ∧ Aside0 (Kd.R (Kd.int .i64) 3 w' w.heap.size (fun _ => True) (.slice Ao14 t203.length co14) t203) ∧ Aside0 (w'.heap[gb202]? = some (.cells #[.int .i64 ((rd_T76 t198 x17_1).f0), .int .i64 ((rd_T76 t198 x17_1).f1)] 76 (0, 0))) ∧ Aside0 (Below w.heap.size w w'))
   case atStart => exact ⟨(false), (0), (by first | rfl | (simp; done) | (simp [*]; done)), (by first | rfl | (simp; done) | (simp [*]; done)), H', ⟨Nat.le_refl _⟩, ⟨ra HO_7.out⟩, ⟨ra HO_15.out⟩, ⟨ra HO205.out⟩, ⟨by (with_reducible repeat (first | refine blk_drewN ?_ _ | refine blk_drew ?_ | refine blk_alloc ?_ _)); exact BK202.out⟩, ⟨hB HB⟩⟩
   case round =>
    clear H'
    try clear c2
    try clear c7
    try clear c7b0
    try clear c8
    try clear c8b0
    try clear c9
    try clear c9b0
    try clear hcz12_0
    try clear hcz12_1
    try clear hfz12_0
    try clear hfz12_1
    try clear hx201_0
    try clear hx201_1
    try clear p201
    try clear q201
    obtain ⟨x10_2, x28_2, rfl, rfl, HA, HK2, HO_7, HO_15, HO_26, BK202, HB⟩ := hrel
    cases gk with
    | zero => exact absurd HA.out (by simp [spec_l14Hops.l1])
    | succ k2 =>
     have H := HA.out
     clear HA
     simp only [spec_l14Hops.l1] at H
     by_cases c15 : x28_2 < (t203.length : Int)
     ·rw [if_pos c15] at H
      have c15b0 : decide (x28_2 < (t203.length : Int)) = true := decide_eq_true c15
      clear c15
      by_cases c16 : 0 ≤ x28_2
      rotate_left
      ·rw [if_neg c16] at H
       exact absurd H (by simp)
      rw [if_pos c16] at H
      have c16b0 : decide (0 ≤ x28_2) = true := decide_eq_true c16
      clear c16
      by_cases c17 : x28_2 < (t203.length : Int)
      rotate_left
      ·rw [if_neg c17] at H
       exact absurd H (by simp)
      rw [if_pos c17] at H
      have c17b0 : decide (x28_2 < (t203.length : Int)) = true := decide_eq_true c17
      clear c17
      by_cases c18 : x10_2 = true
      ·subst c18
       rw [if_pos rfl] at H
       have H' := Aside0.mk H
       clear H
       have p206 : 0 ≤ (x28_2 : Int) := of_decide_eq_true (by first | (with_reducible assumption) | assumption)
       have q206 : x28_2 < (t203.length : Int) := of_decide_eq_true (by first | (with_reducible assumption) | assumption)
       obtain ⟨ad206, e206, hx206_0⟩ := Kd.at_int (Kd.R_reads' HO_26.out).2.2 x28_2 p206 q206
       cases e206
       replace p206 := eq_true p206
       replace q206 := eq_true q206
       go_wp2
       go_roundg k2
       case measure => have := HK1.out; have := HK2.out; omega
       case rel => exact ⟨(true), (wrap64 (x28_2 + 1)), (by first | rfl | (simp; done) | (simp [*]; done)), (by first | rfl | (simp; done) | (simp [*]; done)), H', ⟨by have := HK1.out; have := HK2.out; omega⟩, ⟨ra HO_7.out⟩, ⟨ra HO_15.out⟩, ⟨ra HO_26.out⟩, ⟨by (with_reducible repeat (first | refine blk_drewN ?_ _ | refine blk_drew ?_ | refine blk_alloc ?_ _)); exact BK202.out⟩, ⟨hB HB⟩⟩
      replace c18 := Bool.eq_false_iff.mpr c18
      subst c18
      rw [if_neg (show ¬ (false = true) by decide)] at H
      replace H := Option.bind_eq_some_iff.mp H
      obtain ⟨t207, A190, H⟩ := H
      replace H : (spec_l14Hops.l1 k2 l0 l2 x7_1 t207 t198 (t198.length : Int) x17_1 t203 (t203.length : Int) (wrap64 (x28_2 + 1)) ((rd_T76 t198 x17_1).f0) ((rd_T76 t198 x17_1).f1)) = some r := H
      have A19 := Aside0.mk A190
      clear A190
      have H' := Aside0.mk H
      clear H
      have p206 : 0 ≤ (x28_2 : Int) := of_decide_eq_true (by first | (with_reducible assumption) | assumption)
      have q206 : x28_2 < (t203.length : Int) := of_decide_eq_true (by first | (with_reducible assumption) | assumption)
      obtain ⟨ad206, e206, hx206_0⟩ := Kd.at_int (Kd.R_reads' HO_26.out).2.2 x28_2 p206 q206
      cases e206
      replace p206 := eq_true p206
      replace q206 := eq_true q206
      go_wp2_with (first | (go_at_call 100; (with_reducible refine (spec_l1Has.calls k2 _ _ l2 (rd t203 x28_2) t207 _ ?side1 ?side2 A19.out).mono ?_); (case side1 => exact ca (Kd.C_below HR2.out HB.out)); (case side2 => exact HC2.out); rintro e w' ⟨rfl, ⟨nd, rfl⟩⟩))
      go_roundg k2
      case measure => have := HK1.out; have := HK2.out; omega
      case rel => exact ⟨(t207), (wrap64 (x28_2 + 1)), (by first | rfl | (simp; done) | (simp [*]; done)), (by first | rfl | (simp; done) | (simp [*]; done)), H', ⟨by have := HK1.out; have := HK2.out; omega⟩, ⟨ra HO_7.out⟩, ⟨ra HO_15.out⟩, ⟨ra HO_26.out⟩, ⟨by (with_reducible repeat (first | refine blk_drewN ?_ _ | refine blk_drew ?_ | refine blk_alloc ?_ _)); exact BK202.out⟩, ⟨hB HB⟩⟩
     rw [if_neg c15] at H
     have c15b0 : decide (x28_2 < (t203.length : Int)) = false := decide_eq_false c15
     clear c15
     by_cases c20 : x10_2 = true
     rotate_left
     ·replace c20 := Bool.eq_false_iff.mpr c20
      subst c20
      rw [if_neg (show ¬ (false = true) by decide)] at H
      have H' := Aside0.mk H
      clear H
      go_wp2
      go_roundg k2
      case measure => have := HK1.out; have := HK2.out; omega
      case rel => exact ⟨(x7_1), (wrap64 (x17_1 + 1)), (by first | rfl | (simp; done) | (simp [*]; done)), H', ⟨by have := HK1.out; have := HK2.out; omega⟩, rm_ HO_7 (fun _ hk => hk.1), rm_ HO_15 (fun _ hk => hk.1), ⟨hB HB⟩⟩
     subst c20
     rw [if_pos rfl] at H
     by_cases c21 : x7_1.length < 8796093022208
     rotate_left
     ·rw [if_neg c21] at H
      exact absurd H (by simp)
     rw [if_pos c21] at H
     have LMc21 := Aside0.mk c21
     clear c21
     obtain ⟨y208, hy208⟩ : ∃ y_ : List (S76), y_ = (x7_1 ++ [(⟨((rd_T76 t198 x17_1).f0), ((rd_T76 t198 x17_1).f1)⟩ : S76)]) := ⟨_, rfl⟩
     replace H : (spec_l14Hops.l0 k2 l0 l2 y208 t198 (t198.length : Int) (wrap64 (x17_1 + 1))) = some r := by first | (rw [hy208]; with_reducible exact H) | (have H2_ := (Option.bind_some _ _).symm.trans H; rw [hy208]; with_reducible exact H2_) | (have H2_ := (Option.bind_some _ _).symm.trans H; with_reducible exact H2_) | with_reducible exact H | (rw [hy208]; exact H) | exact H
     have Ny208 := Aside0.mk hy208
     clear hy208
     have H' := Aside0.mk H
     clear H
     have hcz22_0 : wr.cell? ⟨gb202, 0, none⟩ = some (.int .i64 ((rd_T76 t198 x17_1).f0)) := bc_ BK202 0
     have hcz22_1 : wr.cell? ⟨gb202, 1, none⟩ = some (.int .i64 ((rd_T76 t198 x17_1).f1)) := bc_ BK202 1
     have hfz22_0 := blk_frozen BK202.out 0
     have hfz22_1 := blk_frozen BK202.out 1
     go_wp2_with (first | ((with_reducible refine gate_builtin (b := .append) (xs := #[.tmp 40, .tmp 42]) rfl ?_); at_builtin; refine Kd.R_append k76 (w0 := w) w.heap.size rfl (.tmp 40) (.tmp 42) 23 76 (.agg #[(.int .i64 0), (.int .i64 0)]) 16 rfl Try.underlying23 info76 rfl (by decide) (by omega) u7 x7_1 (⟨((rd_T76 t198 x17_1).f0), ((rd_T76 t198 x17_1).f1)⟩ : S76) [.int .i64 ((rd_T76 t198 x17_1).f0), .int .i64 ((rd_T76 t198 x17_1).f1)] (fun k_ => some k_ ≠ (.slice (some ad201) t198.length co6 : Value).ownBlock ∧ k_ ≠ gb202) (fun _ => False) rfl rfl ?aP (fun _ hk => hk.elim) ?aF ?aO ?aB ?aS ?aL ?_; (case aP => exact k76_mkM _ _ _ (⟨((rd_T76 t198 x17_1).f0), ((rd_T76 t198 x17_1).f1)⟩ : S76)); (case aB => exact (hB HB)); (case aF => exact (fun k_ hk => ⟨Kd.fresh' (rl_ HO_15) k_ hk, Kd.freshB (g := gb202) (o := .cells #[.int .i64 ((rd_T76 t198 x17_1).f0), .int .i64 ((rd_T76 t198 x17_1).f1)] 76 (0, 0)) (ba BK202.out) k_ hk⟩)); (case aO => exact (ra HO_7.out)); (case aS => exact (below_size (hB HB))); (case aL => have := LMc21.out; omega); intro v209 w23 ho hb hg hat; rw [← Ny208.out] at ho; have HO210 := Aside0.mk (ho); replace HO_15 := Aside0.mk (Kd.R_after (ok := (fun k_ => k_ ≠ gb202)) (rm_ HO_15 (fun _ hk => ⟨hk.2, hk.1⟩)).out hg hat); replace HO_26 := Aside0.mk (Kd.R_over' (ra HO_26.out) (Kd.R_typed (ra HO_7.out)) (by decide) hg); replace BK202 := Aside0.mk (blk_grown (g := gb202) (o := .cells #[.int .i64 ((rd_T76 t198 x17_1).f0), .int .i64 ((rd_T76 t198 x17_1).f1)] 76 (0, 0)) (ba BK202.out) hg (Kd.R_away HO_7.out (fun _ hk => hk.2))); replace HB := Aside0.mk (hb); clear HO_7; clear ho hb hg hat))
     go_roundg k2
     case measure => have := HK1.out; have := HK2.out; omega
     case rel => exact ⟨(y208), (wrap64 (x17_1 + 1)), (by first | rfl | (simp; done) | (simp [*]; done)), H', ⟨by have := HK1.out; have := HK2.out; omega⟩, rm_ HO210 (fun _ hk => hk.1), rm_ HO_15 (fun _ hk => hk.2), ⟨hB HB⟩⟩

def spec_WantsOn.f (k : Nat) (l0 : List Int) (a1 : Int) (l2 : List Int) : Option ((List (S76)) × Bool) := (spec_l10Two.f k l0 a1 a1).bind fun t211 => (if t211 = true then ((spec_l14Wants.f k l2).bind fun t212 => (if t212 = true then ((spec_l14Hops.f k l0 a1 l2).bind fun t213 => (some (t213, true))) else (some (([] : List (S76)), false)))) else (some (([] : List (S76)), false)))
theorem spec_WantsOn.mono : ∀ a0 a1 a2 k, LeO (spec_WantsOn.f k a0 a1 a2) (spec_WantsOn.f (k + 1) a0 a1 a2) := by
 intro a0 a1 a2 k
 unfold spec_WantsOn.f
 repeat' first
   | (with_reducible exact spec_l10Two.mono _ _ _ _)
   | (with_reducible exact spec_l14Hops.mono _ _ _ _)
   | (with_reducible exact spec_l14Wants.mono _ _)
   | (with_reducible exact LeO.refl _)
   | (with_reducible exact LeO.none _)
   | (with_reducible refine LeO.ite ?_ ?_)
   | (with_reducible refine LeO.bind ?_ (fun _ => ?_))
set_option maxHeartbeats 8000000 in
set_option maxRecDepth 100000 in
theorem spec_WantsOn.calls (k : Nat) (A0 : Option Addr) (c0 : Nat) (l0 : List Int) (a1 : Int) (A2 : Option Addr) (c2 : Nat) (l2 : List Int) (r1 : List (S76)) (r2 : Bool) (w : World) (hr0 : Kd.C (Kd.int .i64) w A0 l0.length l0) (hc0 : l0.length ≤ c0) (hr2 : Kd.C (Kd.int .i64) w A2 l2.length l2) (hc2 : l2.length ≤ c2) (h : spec_WantsOn.f k l0 a1 l2 = some (r1, r2)) :
  Calls Try.prog 9 #[.slice A0 l0.length c0, .int .i64 a1, .slice A2 l2.length c2] w fun e w' => ∃ v0_ : Value, e = .returned (.tuple #[v0_, .bool r2]) ∧ Kd.R k76 76 w' w.heap.size (fun _ => True) v0_ r1 ∧ Below w.heap.size w w' := by
 have HR0 := Aside0.mk hr0
 have HC0 := Aside0.mk hc0
 clear hr0 hc0
 have HR2 := Aside0.mk hr2
 have HC2 := Aside0.mk hc2
 clear hr2 hc2
 have HB := Aside0.mk (Below.refl w.heap.size w)
 have H : ((spec_l10Two.f k l0 a1 a1).bind fun t211 => (if t211 = true then ((spec_l14Wants.f k l2).bind fun t212 => (if t212 = true then ((spec_l14Hops.f k l0 a1 l2).bind fun t213 => (some (t213, true))) else (some (([] : List (S76)), false)))) else (some (([] : List (S76)), false)))) = some (r1, r2) := h
 clear h
 replace H := Option.bind_eq_some_iff.mp H
 obtain ⟨t211, A40, H⟩ := H
 replace H : (if t211 = true then ((spec_l14Wants.f k l2).bind fun t212 => (if t212 = true then ((spec_l14Hops.f k l0 a1 l2).bind fun t213 => (some (t213, true))) else (some (([] : List (S76)), false)))) else (some (([] : List (S76)), false))) = some (r1, r2) := H
 have A4 := Aside0.mk A40
 clear A40
 by_cases c5 : t211 = true
 rotate_left
 ·replace c5 := Bool.eq_false_iff.mpr c5
  subst c5
  rw [if_neg (show ¬ (false = true) by decide)] at H
  simp only [Option.some.injEq, Prod.mk.injEq] at H
  obtain ⟨rfl, rfl⟩ := H
  go_enter Try.func9, Try.ntmps9
  go_wp2_with (first | ((with_reducible refine gate_callee (f := 74) rfl ?_); refine goesL_ (some 11) rfl rfl Try.func74 (by kernel_rfl) rfl #[.slice A0 l0.length c0, .int .i64 a1, .int .i64 a1] rfl tm_ ?_; (with_reducible refine (spec_l10Two.calls k _ _ l0 a1 a1 false _ ?side1 ?side2 A4.out).mono ?_); (case side1 => exact ca HR0.out); (case side2 => exact HC0.out); rintro e w' ⟨rfl, ⟨nd, rfl⟩⟩; refine ⟨_, rfl, ?_⟩))
  go_ret2
  exact ⟨_, by first | rfl | (simp [errW_none, errW_some] <;> rfl) | (simp [*, errW_none, errW_some] <;> rfl), by first | exact Kd.R_nil _ _ _ _ _ | exact Kd.N_nil _ _ _ _ _ | exact Kd.V_nil _ _ _ _ _ | exact Kd.Q_nil _ _ _ _ _ | exact Kd.S_nil _ _ _ _ _, by repeat (first | (with_reducible first | exact HB.out | apply below_alloc | apply pw_below_drewN | apply below_drew1) | exact HB.out)⟩
 subst c5
 rw [if_pos rfl] at H
 replace H := Option.bind_eq_some_iff.mp H
 obtain ⟨t212, A60, H⟩ := H
 replace H : (if t212 = true then ((spec_l14Hops.f k l0 a1 l2).bind fun t213 => (some (t213, true))) else (some (([] : List (S76)), false))) = some (r1, r2) := H
 have A6 := Aside0.mk A60
 clear A60
 by_cases c7 : t212 = true
 rotate_left
 ·replace c7 := Bool.eq_false_iff.mpr c7
  subst c7
  rw [if_neg (show ¬ (false = true) by decide)] at H
  simp only [Option.some.injEq, Prod.mk.injEq] at H
  obtain ⟨rfl, rfl⟩ := H
  go_enter Try.func9, Try.ntmps9
  go_wp2_with (first | ((with_reducible refine gate_callee (f := 74) rfl ?_); refine goesL_ (some 11) rfl rfl Try.func74 (by kernel_rfl) rfl #[.slice A0 l0.length c0, .int .i64 a1, .int .i64 a1] rfl tm_ ?_; (with_reducible refine (spec_l10Two.calls k _ _ l0 a1 a1 true _ ?side1 ?side2 A4.out).mono ?_); (case side1 => exact ca HR0.out); (case side2 => exact HC0.out); rintro e w' ⟨rfl, ⟨nd, rfl⟩⟩; refine ⟨_, rfl, ?_⟩) | (go_at_call 75; (with_reducible refine (spec_l14Wants.calls k _ _ l2 false _ ?side1 ?side2 A6.out).mono ?_); (case side1 => exact ca HR2.out); (case side2 => exact HC2.out); rintro e w' ⟨rfl, ⟨nd, rfl⟩⟩))
  go_ret2
  exact ⟨_, by first | rfl | (simp [errW_none, errW_some] <;> rfl) | (simp [*, errW_none, errW_some] <;> rfl), by first | exact Kd.R_nil _ _ _ _ _ | exact Kd.N_nil _ _ _ _ _ | exact Kd.V_nil _ _ _ _ _ | exact Kd.Q_nil _ _ _ _ _ | exact Kd.S_nil _ _ _ _ _, by repeat (first | (with_reducible first | exact HB.out | apply below_alloc | apply pw_below_drewN | apply below_drew1) | exact HB.out)⟩
 subst c7
 rw [if_pos rfl] at H
 replace H := Option.bind_eq_some_iff.mp H
 obtain ⟨t213, A80, H⟩ := H
 replace H : (some (t213, true)) = some (r1, r2) := H
 have A8 := Aside0.mk A80
 clear A80
 simp only [Option.some.injEq, Prod.mk.injEq] at H
 obtain ⟨rfl, rfl⟩ := H
 go_enter Try.func9, Try.ntmps9
 go_wp2_with (first | ((with_reducible refine gate_callee (f := 74) rfl ?_); refine goesL_ (some 11) rfl rfl Try.func74 (by kernel_rfl) rfl #[.slice A0 l0.length c0, .int .i64 a1, .int .i64 a1] rfl tm_ ?_; (with_reducible refine (spec_l10Two.calls k _ _ l0 a1 a1 true _ ?side1 ?side2 A4.out).mono ?_); (case side1 => exact ca HR0.out); (case side2 => exact HC0.out); rintro e w' ⟨rfl, ⟨nd, rfl⟩⟩; refine ⟨_, rfl, ?_⟩) | (go_at_call 75; (with_reducible refine (spec_l14Wants.calls k _ _ l2 true _ ?side1 ?side2 A6.out).mono ?_); (case side1 => exact ca HR2.out); (case side2 => exact HC2.out); rintro e w' ⟨rfl, ⟨nd, rfl⟩⟩) | ((with_reducible refine gate_callee (f := 76) rfl ?_); refine goesL_ (some 21) rfl rfl Try.func76 (by kernel_rfl) rfl #[.slice A0 l0.length c0, .int .i64 a1, .slice A2 l2.length c2] rfl tm_ ?_; (with_reducible refine (spec_l14Hops.calls k _ _ l0 a1 _ _ l2 t213 _ ?side1 ?side2 ?side3 ?side4 A8.out).mono ?_); (case side1 => exact ca HR0.out); (case side2 => exact HC0.out); (case side3 => exact ca HR2.out); (case side4 => exact HC2.out); rintro e w9 ⟨v214, rfl, ho0, hb⟩; refine ⟨_, rfl, ?_⟩; have HO215 := Aside0.mk (Kd.R_lower ho0 (below_size (hB HB))); replace HB := bst_ HB hb; clear hb ho0))
 go_ret2
 exact ⟨_, by first | rfl | (simp [errW_none, errW_some] <;> rfl) | (simp [*, errW_none, errW_some] <;> rfl), by (with_reducible repeat (first | apply Kd.R_alloc | apply Kd.R_drewN | apply Kd.R_drew)); exact HO215.out, by repeat (first | (with_reducible first | exact HB.out | apply below_alloc | apply pw_below_drewN | apply below_drew1) | exact HB.out)⟩

def impl_isSpots.f (a0 : Int) : Option (Bool) := (impl_in.f a0 1 12).bind fun t223 => (some t223)
set_option maxHeartbeats 8000000 in
set_option maxRecDepth 100000 in
theorem impl_isSpots.calls (a0 : Int) (r : Bool) (w : World) (h : impl_isSpots.f a0 = some r) :
  Calls Try.prog 144 #[.int .i64 a0] w fun e w' => e = .returned (.bool r) ∧ Drawn0 w w' := by
 have H : ((impl_in.f a0 1 12).bind fun t223 => (some t223)) = some r := h
 clear h
 replace H := Option.bind_eq_some_iff.mp H
 obtain ⟨t223, A20, H⟩ := H
 replace H : (some t223) = some r := H
 have A2 := Aside0.mk A20
 clear A20
 obtain rfl := Option.some.inj H
 go_enter Try.func144, Try.ntmps144
 go_wp2_with (first | ((with_reducible refine gate_callee (f := 84) rfl ?_); refine goesL_ (some 4) rfl rfl Try.func84 (by kernel_rfl) rfl #[.int .i64 a0, .int .i64 1, .int .i64 12] rfl tm_ ?_; (with_reducible refine (impl_in.calls a0 1 12 t223 _ A2.out).mono ?_); rintro e w' ⟨rfl, ⟨nd, rfl⟩⟩; refine ⟨_, rfl, ?_⟩))
 go_ret
 exact ⟨by first | rfl | (simp; done) | (simp [*]; done), by repeat (first | exact Drawn0.refl _ | apply Drawn0.step)⟩

mutual
def impl_GoodParents.j0 : Nat → List Int → Bool → Option (Bool)
 | 0, _, _ => none
 | k + 1, x0, x16 => if x16 = true then (some false) else (impl_GoodParents.l0 k x0 (x0.length : Int) 0)
def impl_GoodParents.l0 : Nat → List Int → Int → Int → Option (Bool)
 | 0, _, _, _ => none
 | k + 1, x0, x18, x19 => if x19 < x18 then (impl_GoodParents.l1 k x0 x19 x18 x19 (x0.length : Int) 0) else (some true)
def impl_GoodParents.l1 : Nat → List Int → Int → Int → Int → Int → Int → Option (Bool)
 | 0, _, _, _, _, _, _ => none
 | k + 1, x0, x4, x18, x19, x24, x25 => if x25 < x24 then (if x4 ≥ 0 then (if 0 ≤ x4 then (if x4 < (x0.length : Int) then (impl_GoodParents.l1 k x0 (rd x0 x4) x18 x19 x24 (wrap64 (x25 + 1))) else (none)) else (none)) else (impl_GoodParents.l1 k x0 x4 x18 x19 x24 (wrap64 (x25 + 1)))) else (if x4 ≥ 0 then (some false) else (impl_GoodParents.l0 k x0 x18 (wrap64 (x19 + 1))))
end
def impl_GoodParents.f (k : Nat) (l0 : List Int) : Option (Bool) := (impl_isSpots.f (l0.length : Int)).bind fun t224 => (if t224 = true then ((impl_allIn.f k l0 (-1) (wrap64 ((l0.length : Int) - 1))).bind fun t225 => (impl_GoodParents.j0 k l0 (!t225))) else (impl_GoodParents.j0 k l0 true))
theorem impl_GoodParents.mono_l : ∀ k, (∀ y0 y1, LeO (impl_GoodParents.j0 k y0 y1) (impl_GoodParents.j0 (k + 1) y0 y1)) ∧ (∀ y0 y1 y2, LeO (impl_GoodParents.l0 k y0 y1 y2) (impl_GoodParents.l0 (k + 1) y0 y1 y2)) ∧ (∀ y0 y1 y2 y3 y4 y5, LeO (impl_GoodParents.l1 k y0 y1 y2 y3 y4 y5) (impl_GoodParents.l1 (k + 1) y0 y1 y2 y3 y4 y5))
 | 0 => ⟨fun _ _ r h => by simp [impl_GoodParents.j0] at h, fun _ _ _ r h => by simp [impl_GoodParents.l0] at h, fun _ _ _ _ _ _ r h => by simp [impl_GoodParents.l1] at h⟩
 | k + 1 => by
  obtain ⟨ih0, ih1, ih2⟩ := impl_GoodParents.mono_l k
  refine ⟨?_, ?_, ?_⟩
  ·intro y0 y1
   unfold impl_GoodParents.j0
   repeat' first
   | (with_reducible exact ih0 _ _)
   | (with_reducible exact ih1 _ _ _)
   | (with_reducible exact ih2 _ _ _ _ _ _)
   | (with_reducible exact impl_allIn.mono _ _ _ _)
   | (with_reducible exact LeO.refl _)
   | (with_reducible exact LeO.none _)
   | (with_reducible refine LeO.ite ?_ ?_)
   | (with_reducible refine LeO.bind ?_ (fun _ => ?_))
  ·intro y0 y1 y2
   unfold impl_GoodParents.l0
   repeat' first
   | (with_reducible exact ih0 _ _)
   | (with_reducible exact ih1 _ _ _)
   | (with_reducible exact ih2 _ _ _ _ _ _)
   | (with_reducible exact impl_allIn.mono _ _ _ _)
   | (with_reducible exact LeO.refl _)
   | (with_reducible exact LeO.none _)
   | (with_reducible refine LeO.ite ?_ ?_)
   | (with_reducible refine LeO.bind ?_ (fun _ => ?_))
  ·intro y0 y1 y2 y3 y4 y5
   unfold impl_GoodParents.l1
   repeat' first
   | (with_reducible exact ih0 _ _)
   | (with_reducible exact ih1 _ _ _)
   | (with_reducible exact ih2 _ _ _ _ _ _)
   | (with_reducible exact impl_allIn.mono _ _ _ _)
   | (with_reducible exact LeO.refl _)
   | (with_reducible exact LeO.none _)
   | (with_reducible refine LeO.ite ?_ ?_)
   | (with_reducible refine LeO.bind ?_ (fun _ => ?_))
theorem impl_GoodParents.mono : ∀ a0 k, LeO (impl_GoodParents.f k a0) (impl_GoodParents.f (k + 1) a0) := by
 intro a0 k
 obtain ⟨ih0, ih1, ih2⟩ := impl_GoodParents.mono_l k
 unfold impl_GoodParents.f
 repeat' first
   | (with_reducible exact ih0 _ _)
   | (with_reducible exact ih1 _ _ _)
   | (with_reducible exact ih2 _ _ _ _ _ _)
   | (with_reducible exact impl_allIn.mono _ _ _ _)
   | (with_reducible exact LeO.refl _)
   | (with_reducible exact LeO.none _)
   | (with_reducible refine LeO.ite ?_ ?_)
   | (with_reducible refine LeO.bind ?_ (fun _ => ?_))
set_option maxHeartbeats 8000000 in
set_option maxRecDepth 100000 in
theorem impl_GoodParents.calls (k : Nat) (A0 : Option Addr) (c0 : Nat) (l0 : List Int) (r : Bool) (w : World) (hr0 : Kd.C (Kd.int .i64) w A0 l0.length l0) (hc0 : l0.length ≤ c0) (h : impl_GoodParents.f k l0 = some r) :
  Calls Try.prog 125 #[.slice A0 l0.length c0] w fun e w' => e = .returned (.bool r) ∧ Drawn0 w w' := by
 have HR0 := Aside0.mk hr0
 have HC0 := Aside0.mk hc0
 clear hr0 hc0
 have H : ((impl_isSpots.f (l0.length : Int)).bind fun t224 => (if t224 = true then ((impl_allIn.f k l0 (-1) (wrap64 ((l0.length : Int) - 1))).bind fun t225 => (impl_GoodParents.j0 k l0 (!t225))) else (impl_GoodParents.j0 k l0 true))) = some r := h
 clear h
 have HC2 := Aside0.mk H
 clear H
 go_enter Try.func125, Try.ntmps125
 go_upto_region 1 with (fail)
 go_cut [16] (fun v16 wc => ∃ (kq : Nat) (x16_1 : Bool), v16 = .bool x16_1 ∧ Aside0 (impl_GoodParents.j0 kq l0 x16_1 = some r) ∧ Aside0 (kq ≤ k) ∧ Drawn0 w wc)
 case first =>
  have H := HC2.out
  clear HC2
  replace H := Option.bind_eq_some_iff.mp H
  obtain ⟨t224, A30, H⟩ := H
  replace H : (if t224 = true then ((impl_allIn.f k l0 (-1) (wrap64 ((l0.length : Int) - 1))).bind fun t225 => (impl_GoodParents.j0 k l0 (!t225))) else (impl_GoodParents.j0 k l0 true)) = some r := H
  have A3 := Aside0.mk A30
  clear A30
  by_cases c4 : t224 = true
  rotate_left
  ·replace c4 := Bool.eq_false_iff.mpr c4
   subst c4
   rw [if_neg (show ¬ (false = true) by decide)] at H
   have H' := Aside0.mk H
   clear H
   go_wp2_with (first | ((with_reducible refine gate_callee (f := 144) rfl ?_); refine goesL_ (some 7) rfl rfl Try.func144 (by kernel_rfl) rfl #[.int .i64 (l0.length : Int)] rfl tm_ ?_; (with_reducible refine (impl_isSpots.calls (l0.length : Int) false _ A3.out).mono ?_); rintro e w' ⟨rfl, ⟨nd, rfl⟩⟩; refine ⟨_, rfl, ?_⟩))
   go_meet
   case rel => exact ⟨_, (true), (by first | rfl | (simp; done) | (simp [*]; done)), H', ⟨by first | omega | exact Nat.le_refl _⟩, by repeat (first | exact Drawn0.refl _ | apply Drawn0.step)⟩
  subst c4
  rw [if_pos rfl] at H
  replace H := Option.bind_eq_some_iff.mp H
  obtain ⟨t225, A50, H⟩ := H
  replace H : (impl_GoodParents.j0 k l0 (!t225)) = some r := H
  have A5 := Aside0.mk A50
  clear A50
  have H' := Aside0.mk H
  clear H
  go_wp2_with (first | ((with_reducible refine gate_callee (f := 144) rfl ?_); refine goesL_ (some 7) rfl rfl Try.func144 (by kernel_rfl) rfl #[.int .i64 (l0.length : Int)] rfl tm_ ?_; (with_reducible refine (impl_isSpots.calls (l0.length : Int) true _ A3.out).mono ?_); rintro e w' ⟨rfl, ⟨nd, rfl⟩⟩; refine ⟨_, rfl, ?_⟩) | (go_at_call 89; (with_reducible refine (impl_allIn.calls k _ _ l0 (-1) (wrap64 ((l0.length : Int) - 1)) t225 _ ?side1 ?side2 A5.out).mono ?_); (case side1 => exact ca HR0.out); (case side2 => exact HC0.out); rintro e w' ⟨rfl, ⟨nd, rfl⟩⟩))
  go_meet
  case rel => exact ⟨_, (!t225), (by first | rfl | (simp; done) | (simp [*]; done)), H', ⟨by first | omega | exact Nat.le_refl _⟩, by repeat (first | exact Drawn0.refl _ | apply Drawn0.step)⟩
 case rest =>
  clear HC2
  obtain ⟨kq, x16_1, rfl, HA, HJ1, ⟨mc1, rfl⟩⟩ := hcut
  cases kq with
  | zero => exact absurd HA.out (by simp [impl_GoodParents.j0])
  | succ kj1 =>
   have H := HA.out
   clear HA
   simp only [impl_GoodParents.j0] at H
   by_cases c6 : x16_1 = true
   ·subst c6
    rw [if_pos rfl] at H
    obtain rfl := Option.some.inj H
    go_wp2
    go_ret
    exact ⟨by first | rfl | (simp; done) | (simp [*]; done), by repeat (first | exact Drawn0.refl _ | apply Drawn0.step)⟩
   replace c6 := Bool.eq_false_iff.mpr c6
   subst c6
   rw [if_neg (show ¬ (false = true) by decide)] at H
   have H' := Aside0.mk H
   clear H
   go_wp2
   go_loopg [19] kj1 (fun kq v19 w' => ∃ (x19_2 : Int), v19 = .int .i64 x19_2 ∧ Aside0 (impl_GoodParents.l0 kq l0 (l0.length : Int) x19_2 = some r) ∧ Aside0 (kq ≤ kj1) ∧ Drawn0 w w')
   case atStart => exact ⟨(0), (by first | rfl | (simp; done) | (simp [*]; done)), H', ⟨Nat.le_refl _⟩, by repeat (first | exact Drawn0.refl _ | apply Drawn0.step)⟩
   case round =>
    clear H'
    try clear c6
    obtain ⟨x19_2, rfl, HA, HK2, ⟨m2, rfl⟩⟩ := hrel
    cases gk with
    | zero => exact absurd HA.out (by simp [impl_GoodParents.l0])
    | succ k2 =>
     have H := HA.out
     clear HA
     simp only [impl_GoodParents.l0] at H
     by_cases c7 : x19_2 < (l0.length : Int)
     rotate_left
     ·rw [if_neg c7] at H
      have c7b0 : decide (x19_2 < (l0.length : Int)) = false := decide_eq_false c7
      clear c7
      obtain rfl := Option.some.inj H
      go_wp2
      go_ret
      exact ⟨by first | rfl | (simp; done) | (simp [*]; done), by repeat (first | exact Drawn0.refl _ | apply Drawn0.step)⟩
     rw [if_pos c7] at H
     have c7b0 : decide (x19_2 < (l0.length : Int)) = true := decide_eq_true c7
     clear c7
     have H' := Aside0.mk H
     clear H
     go_wp2
     go_loopg [4, 25] k2 (fun kq v4 v25 w' => ∃ (x4_3 : Int) (x25_3 : Int), v4 = .int .i64 x4_3 ∧ v25 = .int .i64 x25_3 ∧ Aside0 (impl_GoodParents.l1 kq l0 x4_3 (l0.length : Int) x19_2 (l0.length : Int) x25_3 = some r) ∧ Aside0 (kq ≤ k2) ∧ Drawn0 w w')
     case atStart => exact ⟨(x19_2), (0), (by first | rfl | (simp; done) | (simp [*]; done)), (by first | rfl | (simp; done) | (simp [*]; done)), H', ⟨Nat.le_refl _⟩, by repeat (first | exact Drawn0.refl _ | apply Drawn0.step)⟩
     case round =>
      clear H'
      try clear c6
      try clear c7
      try clear c7b0
      obtain ⟨x4_3, x25_3, rfl, rfl, HA, HK3, ⟨m3, rfl⟩⟩ := hrel
      cases gk with
      | zero => exact absurd HA.out (by simp [impl_GoodParents.l1])
      | succ k3 =>
       have H := HA.out
       clear HA
       simp only [impl_GoodParents.l1] at H
       by_cases c8 : x25_3 < (l0.length : Int)
       rotate_left
       ·rw [if_neg c8] at H
        have c8b0 : decide (x25_3 < (l0.length : Int)) = false := decide_eq_false c8
        clear c8
        by_cases c12 : x4_3 ≥ 0
        ·rw [if_pos c12] at H
         have c12b0 : decide (0 ≤ x4_3) = true := decide_eq_true c12
         clear c12
         obtain rfl := Option.some.inj H
         go_wp2
         go_ret
         exact ⟨by first | rfl | (simp; done) | (simp [*]; done), by repeat (first | exact Drawn0.refl _ | apply Drawn0.step)⟩
        rw [if_neg c12] at H
        have c12b0 : decide (0 ≤ x4_3) = false := decide_eq_false c12
        clear c12
        have H' := Aside0.mk H
        clear H
        go_wp2
        go_roundg k3
        case measure => have := HJ1.out; have := HK2.out; have := HK3.out; omega
        case rel => exact ⟨(wrap64 (x19_2 + 1)), (by first | rfl | (simp; done) | (simp [*]; done)), H', ⟨by have := HJ1.out; have := HK2.out; have := HK3.out; omega⟩, by repeat (first | exact Drawn0.refl _ | apply Drawn0.step)⟩
       rw [if_pos c8] at H
       have c8b0 : decide (x25_3 < (l0.length : Int)) = true := decide_eq_true c8
       clear c8
       by_cases c9 : x4_3 ≥ 0
       rotate_left
       ·rw [if_neg c9] at H
        have c9b0 : decide (0 ≤ x4_3) = false := decide_eq_false c9
        clear c9
        have H' := Aside0.mk H
        clear H
        go_wp2
        go_roundg k3
        case measure => have := HJ1.out; have := HK2.out; have := HK3.out; omega
        case rel => exact ⟨(x4_3), (wrap64 (x25_3 + 1)), (by first | rfl | (simp; done) | (simp [*]; done)), (by first | rfl | (simp; done) | (simp [*]; done)), H', ⟨by have := HJ1.out; have := HK2.out; have := HK3.out; omega⟩, by repeat (first | exact Drawn0.refl _ | apply Drawn0.step)⟩
       rw [if_pos c9] at H
       have c9b0 : decide (0 ≤ x4_3) = true := decide_eq_true c9
       clear c9
       by_cases c10 : 0 ≤ x4_3
       rotate_left
       ·rw [if_neg c10] at H
        exact absurd H (by simp)
       rw [if_pos c10] at H
       have c10b0 : decide (0 ≤ x4_3) = true := decide_eq_true c10
       clear c10
       by_cases c11 : x4_3 < (l0.length : Int)
       rotate_left
       ·rw [if_neg c11] at H
        exact absurd H (by simp)
       rw [if_pos c11] at H
       have c11b0 : decide (x4_3 < (l0.length : Int)) = true := decide_eq_true c11
       clear c11
       have H' := Aside0.mk H
       clear H
       have p226 : 0 ≤ (x4_3 : Int) := of_decide_eq_true (by first | (with_reducible assumption) | assumption)
       have q226 : x4_3 < (l0.length : Int) := of_decide_eq_true (by first | (with_reducible assumption) | assumption)
       obtain ⟨ad226, e226, hx226_0⟩ := Kd.at_int HR0.out x4_3 p226 q226
       cases e226
       replace p226 := eq_true p226
       replace q226 := eq_true q226
       go_wp2
       go_roundg k3
       case measure => have := HJ1.out; have := HK2.out; have := HK3.out; omega
       case rel => exact ⟨(rd l0 x4_3), (wrap64 (x25_3 + 1)), (by first | rfl | (simp; done) | (simp [*]; done)), (by first | rfl | (simp; done) | (simp [*]; done)), H', ⟨by have := HJ1.out; have := HK2.out; have := HK3.out; omega⟩, by repeat (first | exact Drawn0.refl _ | apply Drawn0.step)⟩

def impl_goodTree.f (k : Nat) (l0 : List Int) (l1 : List Int) : Option (Bool) := (impl_GoodParents.f k l0).bind fun t227 => (if t227 = true then ((impl_allIn.f k l1 0 (wrap64 ((l0.length : Int) - 1))).bind fun t228 => (some t228)) else (some false))
theorem impl_goodTree.mono : ∀ a0 a1 k, LeO (impl_goodTree.f k a0 a1) (impl_goodTree.f (k + 1) a0 a1) := by
 intro a0 a1 k
 unfold impl_goodTree.f
 repeat' first
   | (with_reducible exact impl_GoodParents.mono _ _)
   | (with_reducible exact impl_allIn.mono _ _ _ _)
   | (with_reducible exact LeO.refl _)
   | (with_reducible exact LeO.none _)
   | (with_reducible refine LeO.ite ?_ ?_)
   | (with_reducible refine LeO.bind ?_ (fun _ => ?_))
set_option maxHeartbeats 8000000 in
set_option maxRecDepth 100000 in
theorem impl_goodTree.calls (k : Nat) (A0 : Option Addr) (c0 : Nat) (l0 : List Int) (A1 : Option Addr) (c1 : Nat) (l1 : List Int) (r : Bool) (w : World) (hr0 : Kd.C (Kd.int .i64) w A0 l0.length l0) (hc0 : l0.length ≤ c0) (hr1 : Kd.C (Kd.int .i64) w A1 l1.length l1) (hc1 : l1.length ≤ c1) (h : impl_goodTree.f k l0 l1 = some r) :
  Calls Try.prog 77 #[.slice A0 l0.length c0, .slice A1 l1.length c1] w fun e w' => e = .returned (.bool r) ∧ Drawn0 w w' := by
 have HR0 := Aside0.mk hr0
 have HC0 := Aside0.mk hc0
 clear hr0 hc0
 have HR1 := Aside0.mk hr1
 have HC1 := Aside0.mk hc1
 clear hr1 hc1
 have H : ((impl_GoodParents.f k l0).bind fun t227 => (if t227 = true then ((impl_allIn.f k l1 0 (wrap64 ((l0.length : Int) - 1))).bind fun t228 => (some t228)) else (some false))) = some r := h
 clear h
 replace H := Option.bind_eq_some_iff.mp H
 obtain ⟨t227, A30, H⟩ := H
 replace H : (if t227 = true then ((impl_allIn.f k l1 0 (wrap64 ((l0.length : Int) - 1))).bind fun t228 => (some t228)) else (some false)) = some r := H
 have A3 := Aside0.mk A30
 clear A30
 by_cases c4 : t227 = true
 rotate_left
 ·replace c4 := Bool.eq_false_iff.mpr c4
  subst c4
  rw [if_neg (show ¬ (false = true) by decide)] at H
  obtain rfl := Option.some.inj H
  go_enter Try.func77, Try.ntmps77
  go_wp2_with (first | ((with_reducible refine gate_callee (f := 125) rfl ?_); refine goesL_ (some 6) rfl rfl Try.func125 (by kernel_rfl) rfl #[.slice A0 l0.length c0] rfl tm_ ?_; (with_reducible refine (impl_GoodParents.calls k _ _ l0 false _ ?side1 ?side2 A3.out).mono ?_); (case side1 => exact ca HR0.out); (case side2 => exact HC0.out); rintro e w' ⟨rfl, ⟨nd, rfl⟩⟩; refine ⟨_, rfl, ?_⟩))
  go_ret
  exact ⟨by first | rfl | (simp; done) | (simp [*]; done), by repeat (first | exact Drawn0.refl _ | apply Drawn0.step)⟩
 subst c4
 rw [if_pos rfl] at H
 replace H := Option.bind_eq_some_iff.mp H
 obtain ⟨t228, A50, H⟩ := H
 replace H : (some t228) = some r := H
 have A5 := Aside0.mk A50
 clear A50
 obtain rfl := Option.some.inj H
 go_enter Try.func77, Try.ntmps77
 go_wp2_with (first | ((with_reducible refine gate_callee (f := 125) rfl ?_); refine goesL_ (some 6) rfl rfl Try.func125 (by kernel_rfl) rfl #[.slice A0 l0.length c0] rfl tm_ ?_; (with_reducible refine (impl_GoodParents.calls k _ _ l0 true _ ?side1 ?side2 A3.out).mono ?_); (case side1 => exact ca HR0.out); (case side2 => exact HC0.out); rintro e w' ⟨rfl, ⟨nd, rfl⟩⟩; refine ⟨_, rfl, ?_⟩) | (go_at_call 89; (with_reducible refine (impl_allIn.calls k _ _ l1 0 (wrap64 ((l0.length : Int) - 1)) t228 _ ?side1 ?side2 A5.out).mono ?_); (case side1 => exact ca HR1.out); (case side2 => exact HC1.out); rintro e w' ⟨rfl, ⟨nd, rfl⟩⟩))
 go_ret
 exact ⟨by first | rfl | (simp; done) | (simp [*]; done), by repeat (first | exact Drawn0.refl _ | apply Drawn0.step)⟩

def impl_rising.l0 : Nat → List Int → Int → Option (Bool)
 | 0, _, _ => none
 | k + 1, x0, x3 => if x3 < (x0.length : Int) then (if 0 ≤ (wrap64 (x3 - 1)) then (if (wrap64 (x3 - 1)) < (x0.length : Int) then (if 0 ≤ x3 then (if (rd x0 (wrap64 (x3 - 1))) ≥ (rd x0 x3) then (some false) else (impl_rising.l0 k x0 (wrap64 (x3 + 1)))) else (none)) else (none)) else (none)) else (some true)
def impl_rising.f (k : Nat) (l0 : List Int) : Option (Bool) := impl_rising.l0 k l0 1
theorem impl_rising.mono_l : ∀ k, (∀ y0 y1, LeO (impl_rising.l0 k y0 y1) (impl_rising.l0 (k + 1) y0 y1))
 | 0 => fun _ _ r h => by simp [impl_rising.l0] at h
 | k + 1 => by
  have ih0 := impl_rising.mono_l k
  ·intro y0 y1
   unfold impl_rising.l0
   repeat' first
   | (with_reducible exact ih0 _ _)
   | (with_reducible exact LeO.refl _)
   | (with_reducible exact LeO.none _)
   | (with_reducible refine LeO.ite ?_ ?_)
   | (with_reducible refine LeO.bind ?_ (fun _ => ?_))
theorem impl_rising.mono : ∀ a0 k, LeO (impl_rising.f k a0) (impl_rising.f (k + 1) a0) := by
 intro a0 k
 have ih0 := impl_rising.mono_l k
 unfold impl_rising.f
 repeat' first
   | (with_reducible exact ih0 _ _)
   | (with_reducible exact LeO.refl _)
   | (with_reducible exact LeO.none _)
   | (with_reducible refine LeO.ite ?_ ?_)
   | (with_reducible refine LeO.bind ?_ (fun _ => ?_))
set_option maxHeartbeats 8000000 in
set_option maxRecDepth 100000 in
theorem impl_rising.calls (k : Nat) (A0 : Option Addr) (c0 : Nat) (l0 : List Int) (r : Bool) (w : World) (hr0 : Kd.C (Kd.int .i64) w A0 l0.length l0) (hc0 : l0.length ≤ c0) (h : impl_rising.f k l0 = some r) :
  Calls Try.prog 126 #[.slice A0 l0.length c0] w fun e w' => e = .returned (.bool r) ∧ Drawn0 w w' := by
 have HR0 := Aside0.mk hr0
 have HC0 := Aside0.mk hc0
 clear hr0 hc0
 have H : (impl_rising.l0 k l0 1) = some r := h
 clear h
 have H' := Aside0.mk H
 clear H
 go_enter Try.func126, Try.ntmps126
 go_wp2
 repeat (go_quiet (fail); try go_wp2)
 go_loopg [3] k (fun kq v3 w' => ∃ (x3_1 : Int), v3 = .int .i64 x3_1 ∧ Aside0 (impl_rising.l0 kq l0 x3_1 = some r) ∧ Aside0 (kq ≤ k) ∧ Drawn0 w w')
 case atStart => exact ⟨(1), (by first | rfl | (simp; done) | (simp [*]; done)), H', ⟨Nat.le_refl _⟩, by repeat (first | exact Drawn0.refl _ | apply Drawn0.step)⟩
 case round =>
  clear H'
  obtain ⟨x3_1, rfl, HA, HK1, ⟨m1, rfl⟩⟩ := hrel
  cases gk with
  | zero => exact absurd HA.out (by simp [impl_rising.l0])
  | succ k1 =>
   have H := HA.out
   clear HA
   simp only [impl_rising.l0] at H
   by_cases c2 : x3_1 < (l0.length : Int)
   rotate_left
   ·rw [if_neg c2] at H
    have c2b0 : decide (x3_1 < (l0.length : Int)) = false := decide_eq_false c2
    clear c2
    obtain rfl := Option.some.inj H
    go_wp2
    repeat (go_quiet (fail); try go_wp2)
    go_ret
    exact ⟨by first | rfl | (simp; done) | (simp [*]; done), by repeat (first | exact Drawn0.refl _ | apply Drawn0.step)⟩
   rw [if_pos c2] at H
   have c2b0 : decide (x3_1 < (l0.length : Int)) = true := decide_eq_true c2
   clear c2
   obtain ⟨ji3, hji3⟩ : ∃ j_ : Int, (wrap64 (x3_1 - 1)) = j_ := ⟨_, rfl⟩
   replace H : (if 0 ≤ (ji3) then (if (ji3) < (l0.length : Int) then (if 0 ≤ x3_1 then (if (rd l0 (ji3)) ≥ (rd l0 x3_1) then (some false) else (impl_rising.l0 k1 l0 (wrap64 (x3_1 + 1)))) else (none)) else (none)) else (none)) = some r := by first | (rw [hji3] at H; exact H) | (simp only [hji3] at H ⊢; exact H)
   have hji3w : (IntKind.i64.wrap (x3_1 - 1)) = ji3 := (i64_w _).trans hji3
   by_cases c4 : 0 ≤ (ji3)
   rotate_left
   ·rw [if_neg c4] at H
    exact absurd H (by simp)
   rw [if_pos c4] at H
   have c4b0 : decide (0 ≤ (ji3)) = true := decide_eq_true c4
   clear c4
   by_cases c5 : (ji3) < (l0.length : Int)
   rotate_left
   ·rw [if_neg c5] at H
    exact absurd H (by simp)
   rw [if_pos c5] at H
   have c5b0 : decide ((ji3) < (l0.length : Int)) = true := decide_eq_true c5
   clear c5
   by_cases c6 : 0 ≤ x3_1
   rotate_left
   ·rw [if_neg c6] at H
    exact absurd H (by simp)
   rw [if_pos c6] at H
   have c6b0 : decide (0 ≤ x3_1) = true := decide_eq_true c6
   clear c6
   by_cases c7 : (rd l0 (ji3)) ≥ (rd l0 x3_1)
   ·rw [if_pos c7] at H
    have c7b0 : decide ((rd l0 x3_1) ≤ (rd l0 (ji3))) = true := decide_eq_true c7
    clear c7
    obtain rfl := Option.some.inj H
    have p229 : 0 ≤ ((ji3) : Int) := of_decide_eq_true (by first | (with_reducible assumption) | assumption)
    have q229 : (ji3) < (l0.length : Int) := of_decide_eq_true (by first | (with_reducible assumption) | assumption)
    obtain ⟨ad229, e229, hx229_0⟩ := Kd.at_int HR0.out (ji3) p229 q229
    cases e229
    replace p229 := eq_true p229
    replace q229 := eq_true q229
    have p230 : 0 ≤ (x3_1 : Int) := of_decide_eq_true (by first | (with_reducible assumption) | assumption)
    have q230 : x3_1 < (l0.length : Int) := of_decide_eq_true (by first | (with_reducible assumption) | assumption)
    obtain ⟨ad230, e230, hx230_0⟩ := Kd.at_int HR0.out x3_1 p230 q230
    obtain rfl : ad229 = ad230 := (by injection e230)
    replace p230 := eq_true p230
    replace q230 := eq_true q230
    go_wp2
    repeat (go_quiet (fail); try go_wp2)
    go_ret
    exact ⟨by first | rfl | (simp; done) | (simp only [← hji3] <;> (first | rfl | simp)) | (simp [*]; done), by repeat (first | exact Drawn0.refl _ | apply Drawn0.step)⟩
   rw [if_neg c7] at H
   have c7b0 : decide ((rd l0 x3_1) ≤ (rd l0 (ji3))) = false := decide_eq_false c7
   clear c7
   have H' := Aside0.mk H
   clear H
   have p229 : 0 ≤ ((ji3) : Int) := of_decide_eq_true (by first | (with_reducible assumption) | assumption)
   have q229 : (ji3) < (l0.length : Int) := of_decide_eq_true (by first | (with_reducible assumption) | assumption)
   obtain ⟨ad229, e229, hx229_0⟩ := Kd.at_int HR0.out (ji3) p229 q229
   cases e229
   replace p229 := eq_true p229
   replace q229 := eq_true q229
   have p230 : 0 ≤ (x3_1 : Int) := of_decide_eq_true (by first | (with_reducible assumption) | assumption)
   have q230 : x3_1 < (l0.length : Int) := of_decide_eq_true (by first | (with_reducible assumption) | assumption)
   obtain ⟨ad230, e230, hx230_0⟩ := Kd.at_int HR0.out x3_1 p230 q230
   obtain rfl : ad229 = ad230 := (by injection e230)
   replace p230 := eq_true p230
   replace q230 := eq_true q230
   go_wp2
   repeat (go_quiet (fail); try go_wp2)
   go_roundg k1
   case measure => have := HK1.out; omega
   case rel => exact ⟨(wrap64 (x3_1 + 1)), (by first | rfl | (simp; done) | (simp [*]; done)), H', ⟨by have := HK1.out; omega⟩, by repeat (first | exact Drawn0.refl _ | apply Drawn0.step)⟩

def impl_goodWants.f (k : Nat) (l0 : List Int) : Option (Bool) := (impl_rising.f k l0).bind fun t231 => (if t231 = true then ((impl_allIn.f k l0 0 11).bind fun t232 => (some t232)) else (some false))
theorem impl_goodWants.mono : ∀ a0 k, LeO (impl_goodWants.f k a0) (impl_goodWants.f (k + 1) a0) := by
 intro a0 k
 unfold impl_goodWants.f
 repeat' first
   | (with_reducible exact impl_allIn.mono _ _ _ _)
   | (with_reducible exact impl_rising.mono _ _)
   | (with_reducible exact LeO.refl _)
   | (with_reducible exact LeO.none _)
   | (with_reducible refine LeO.ite ?_ ?_)
   | (with_reducible refine LeO.bind ?_ (fun _ => ?_))
set_option maxHeartbeats 8000000 in
set_option maxRecDepth 100000 in
theorem impl_goodWants.calls (k : Nat) (A0 : Option Addr) (c0 : Nat) (l0 : List Int) (r : Bool) (w : World) (hr0 : Kd.C (Kd.int .i64) w A0 l0.length l0) (hc0 : l0.length ≤ c0) (h : impl_goodWants.f k l0 = some r) :
  Calls Try.prog 78 #[.slice A0 l0.length c0] w fun e w' => e = .returned (.bool r) ∧ Drawn0 w w' := by
 have HR0 := Aside0.mk hr0
 have HC0 := Aside0.mk hc0
 clear hr0 hc0
 have H : ((impl_rising.f k l0).bind fun t231 => (if t231 = true then ((impl_allIn.f k l0 0 11).bind fun t232 => (some t232)) else (some false))) = some r := h
 clear h
 replace H := Option.bind_eq_some_iff.mp H
 obtain ⟨t231, A20, H⟩ := H
 replace H : (if t231 = true then ((impl_allIn.f k l0 0 11).bind fun t232 => (some t232)) else (some false)) = some r := H
 have A2 := Aside0.mk A20
 clear A20
 by_cases c3 : t231 = true
 rotate_left
 ·replace c3 := Bool.eq_false_iff.mpr c3
  subst c3
  rw [if_neg (show ¬ (false = true) by decide)] at H
  obtain rfl := Option.some.inj H
  go_enter Try.func78, Try.ntmps78
  go_wp2_with (first | ((with_reducible refine gate_callee (f := 126) rfl ?_); refine goesL_ (some 4) rfl rfl Try.func126 (by kernel_rfl) rfl #[.slice A0 l0.length c0] rfl tm_ ?_; (with_reducible refine (impl_rising.calls k _ _ l0 false _ ?side1 ?side2 A2.out).mono ?_); (case side1 => exact ca HR0.out); (case side2 => exact HC0.out); rintro e w' ⟨rfl, ⟨nd, rfl⟩⟩; refine ⟨_, rfl, ?_⟩))
  go_ret
  exact ⟨by first | rfl | (simp; done) | (simp [*]; done), by repeat (first | exact Drawn0.refl _ | apply Drawn0.step)⟩
 subst c3
 rw [if_pos rfl] at H
 replace H := Option.bind_eq_some_iff.mp H
 obtain ⟨t232, A40, H⟩ := H
 replace H : (some t232) = some r := H
 have A4 := Aside0.mk A40
 clear A40
 obtain rfl := Option.some.inj H
 go_enter Try.func78, Try.ntmps78
 go_wp2_with (first | ((with_reducible refine gate_callee (f := 126) rfl ?_); refine goesL_ (some 4) rfl rfl Try.func126 (by kernel_rfl) rfl #[.slice A0 l0.length c0] rfl tm_ ?_; (with_reducible refine (impl_rising.calls k _ _ l0 true _ ?side1 ?side2 A2.out).mono ?_); (case side1 => exact ca HR0.out); (case side2 => exact HC0.out); rintro e w' ⟨rfl, ⟨nd, rfl⟩⟩; refine ⟨_, rfl, ?_⟩) | (go_at_call 89; (with_reducible refine (impl_allIn.calls k _ _ l0 0 11 t232 _ ?side1 ?side2 A4.out).mono ?_); (case side1 => exact ca HR0.out); (case side2 => exact HC0.out); rintro e w' ⟨rfl, ⟨nd, rfl⟩⟩))
 go_ret
 exact ⟨by first | rfl | (simp; done) | (simp [*]; done), by repeat (first | exact Drawn0.refl _ | apply Drawn0.step)⟩

def slices_Index_int_int.l0 : Nat → List Int → Int → Int → Int → Option (Int)
 | 0, _, _, _, _ => none
 | k + 1, x0, x1, x7, x8 => if x8 < x7 then (if 0 ≤ x8 then (if x8 < (x0.length : Int) then (if x1 = (rd x0 x8) then (some x8) else (slices_Index_int_int.l0 k x0 x1 x7 (wrap64 (x8 + 1)))) else (none)) else (none)) else (some (-1))
def slices_Index_int_int.f (k : Nat) (l0 : List Int) (a1 : Int) : Option (Int) := slices_Index_int_int.l0 k l0 a1 (l0.length : Int) 0
theorem slices_Index_int_int.mono_l : ∀ k, (∀ y0 y1 y2 y3, LeO (slices_Index_int_int.l0 k y0 y1 y2 y3) (slices_Index_int_int.l0 (k + 1) y0 y1 y2 y3))
 | 0 => fun _ _ _ _ r h => by simp [slices_Index_int_int.l0] at h
 | k + 1 => by
  have ih0 := slices_Index_int_int.mono_l k
  ·intro y0 y1 y2 y3
   unfold slices_Index_int_int.l0
   repeat' first
   | (with_reducible exact ih0 _ _ _ _)
   | (with_reducible exact LeO.refl _)
   | (with_reducible exact LeO.none _)
   | (with_reducible refine LeO.ite ?_ ?_)
   | (with_reducible refine LeO.bind ?_ (fun _ => ?_))
theorem slices_Index_int_int.mono : ∀ a0 a1 k, LeO (slices_Index_int_int.f k a0 a1) (slices_Index_int_int.f (k + 1) a0 a1) := by
 intro a0 a1 k
 have ih0 := slices_Index_int_int.mono_l k
 unfold slices_Index_int_int.f
 repeat' first
   | (with_reducible exact ih0 _ _ _ _)
   | (with_reducible exact LeO.refl _)
   | (with_reducible exact LeO.none _)
   | (with_reducible refine LeO.ite ?_ ?_)
   | (with_reducible refine LeO.bind ?_ (fun _ => ?_))
set_option maxHeartbeats 8000000 in
set_option maxRecDepth 100000 in
theorem slices_Index_int_int.calls (k : Nat) (A0 : Option Addr) (c0 : Nat) (l0 : List Int) (a1 : Int) (r : Int) (w : World) (hr0 : Kd.C (Kd.int .i64) w A0 l0.length l0) (hc0 : l0.length ≤ c0) (h : slices_Index_int_int.f k l0 a1 = some r) :
  Calls Try.prog 135 #[.slice A0 l0.length c0, .int .i64 a1] w fun e w' => e = .returned (.int .i64 r) ∧ Drawn0 w w' := by
 have HR0 := Aside0.mk hr0
 have HC0 := Aside0.mk hc0
 clear hr0 hc0
 have H : (slices_Index_int_int.l0 k l0 a1 (l0.length : Int) 0) = some r := h
 clear h
 have H' := Aside0.mk H
 clear H
 go_enter Try.func135, Try.ntmps135
 go_wp2
 go_loopg [8] k (fun kq v8 w' => ∃ (x8_1 : Int), v8 = .int .i64 x8_1 ∧ Aside0 (slices_Index_int_int.l0 kq l0 a1 (l0.length : Int) x8_1 = some r) ∧ Aside0 (kq ≤ k) ∧ Drawn0 w w')
 case atStart => exact ⟨(0), (by first | rfl | (simp; done) | (simp [*]; done)), H', ⟨Nat.le_refl _⟩, by repeat (first | exact Drawn0.refl _ | apply Drawn0.step)⟩
 case round =>
  clear H'
  obtain ⟨x8_1, rfl, HA, HK1, ⟨m1, rfl⟩⟩ := hrel
  cases gk with
  | zero => exact absurd HA.out (by simp [slices_Index_int_int.l0])
  | succ k1 =>
   have H := HA.out
   clear HA
   simp only [slices_Index_int_int.l0] at H
   by_cases c3 : x8_1 < (l0.length : Int)
   rotate_left
   ·rw [if_neg c3] at H
    have c3b0 : decide (x8_1 < (l0.length : Int)) = false := decide_eq_false c3
    clear c3
    obtain rfl := Option.some.inj H
    go_wp2
    go_ret
    exact ⟨by first | rfl | (simp; done) | (simp [*]; done), by repeat (first | exact Drawn0.refl _ | apply Drawn0.step)⟩
   rw [if_pos c3] at H
   have c3b0 : decide (x8_1 < (l0.length : Int)) = true := decide_eq_true c3
   clear c3
   by_cases c4 : 0 ≤ x8_1
   rotate_left
   ·rw [if_neg c4] at H
    exact absurd H (by simp)
   rw [if_pos c4] at H
   have c4b0 : decide (0 ≤ x8_1) = true := decide_eq_true c4
   clear c4
   by_cases c5 : x8_1 < (l0.length : Int)
   rotate_left
   ·rw [if_neg c5] at H
    exact absurd H (by simp)
   rw [if_pos c5] at H
   have c5b0 : decide (x8_1 < (l0.length : Int)) = true := decide_eq_true c5
   clear c5
   by_cases c6 : a1 = (rd l0 x8_1)
   ·rw [if_pos c6] at H
    have c6b0 : (a1 == (rd l0 x8_1)) = true := beq_iff_eq.mpr c6
    have c6b1 : (a1 != (rd l0 x8_1)) = false := bne_eq_false_iff_eq.mpr c6
    clear c6
    obtain rfl := Option.some.inj H
    have p233 : 0 ≤ (x8_1 : Int) := of_decide_eq_true (by first | (with_reducible assumption) | assumption)
    have q233 : x8_1 < (l0.length : Int) := of_decide_eq_true (by first | (with_reducible assumption) | assumption)
    obtain ⟨ad233, e233, hx233_0⟩ := Kd.at_int HR0.out x8_1 p233 q233
    cases e233
    replace p233 := eq_true p233
    replace q233 := eq_true q233
    go_wp2
    go_ret
    exact ⟨by first | rfl | (simp; done) | (simp [*]; done), by repeat (first | exact Drawn0.refl _ | apply Drawn0.step)⟩
   rw [if_neg c6] at H
   have c6b0 : (a1 == (rd l0 x8_1)) = false := beq_eq_false_iff_ne.mpr c6
   have c6b1 : (a1 != (rd l0 x8_1)) = true := bne_iff_ne.mpr c6
   have H' := Aside0.mk H
   clear H
   have p233 : 0 ≤ (x8_1 : Int) := of_decide_eq_true (by first | (with_reducible assumption) | assumption)
   have q233 : x8_1 < (l0.length : Int) := of_decide_eq_true (by first | (with_reducible assumption) | assumption)
   obtain ⟨ad233, e233, hx233_0⟩ := Kd.at_int HR0.out x8_1 p233 q233
   cases e233
   replace p233 := eq_true p233
   replace q233 := eq_true q233
   go_wp2
   go_roundg k1
   case measure => have := HK1.out; omega
   case rel => exact ⟨(wrap64 (x8_1 + 1)), (by first | rfl | (simp; done) | (simp [*]; done)), H', ⟨by have := HK1.out; omega⟩, by repeat (first | exact Drawn0.refl _ | apply Drawn0.step)⟩

def slices_Contains_int_int.f (k : Nat) (l0 : List Int) (a1 : Int) : Option (Bool) := (slices_Index_int_int.f k l0 a1).bind fun t234 => (some (decide (t234 ≥ 0)))
theorem slices_Contains_int_int.mono : ∀ a0 a1 k, LeO (slices_Contains_int_int.f k a0 a1) (slices_Contains_int_int.f (k + 1) a0 a1) := by
 intro a0 a1 k
 unfold slices_Contains_int_int.f
 repeat' first
   | (with_reducible exact slices_Index_int_int.mono _ _ _)
   | (with_reducible exact LeO.refl _)
   | (with_reducible exact LeO.none _)
   | (with_reducible refine LeO.ite ?_ ?_)
   | (with_reducible refine LeO.bind ?_ (fun _ => ?_))
set_option maxHeartbeats 8000000 in
set_option maxRecDepth 100000 in
theorem slices_Contains_int_int.calls (k : Nat) (A0 : Option Addr) (c0 : Nat) (l0 : List Int) (a1 : Int) (r : Bool) (w : World) (hr0 : Kd.C (Kd.int .i64) w A0 l0.length l0) (hc0 : l0.length ≤ c0) (h : slices_Contains_int_int.f k l0 a1 = some r) :
  Calls Try.prog 97 #[.slice A0 l0.length c0, .int .i64 a1] w fun e w' => e = .returned (.bool r) ∧ Drawn0 w w' := by
 have HR0 := Aside0.mk hr0
 have HC0 := Aside0.mk hc0
 clear hr0 hc0
 have H : ((slices_Index_int_int.f k l0 a1).bind fun t234 => (some (decide (t234 ≥ 0)))) = some r := h
 clear h
 replace H := Option.bind_eq_some_iff.mp H
 obtain ⟨t234, A30, H⟩ := H
 replace H : (some (decide (t234 ≥ 0))) = some r := H
 have A3 := Aside0.mk A30
 clear A30
 obtain rfl := Option.some.inj H
 go_enter Try.func97, Try.ntmps97
 go_wp2_with (first | ((with_reducible refine gate_callee (f := 135) rfl ?_); refine goesL_ (some 7) rfl rfl Try.func135 (by kernel_rfl) rfl #[.slice A0 l0.length c0, .int .i64 a1] rfl tm_ ?_; (with_reducible refine (slices_Index_int_int.calls k _ _ l0 a1 t234 _ ?side1 ?side2 A3.out).mono ?_); (case side1 => exact ca HR0.out); (case side2 => exact HC0.out); rintro e w' ⟨rfl, ⟨nd, rfl⟩⟩; refine ⟨_, rfl, ?_⟩))
 go_ret
 exact ⟨by first | rfl | (simp; done) | (simp [*]; done), by repeat (first | exact Drawn0.refl _ | apply Drawn0.step)⟩

def impl_branches.l0 : Nat → List Int → Int → List Int → List Int → Int → Int → Option (List Int)
 | 0, _, _, _, _, _, _ => none
 | k + 1, x0, x1, x5, x8, x9, x10 => if x10 < x9 then (if 0 ≤ x10 then (if x10 < (x8.length : Int) then (if (rd x8 x10) = x1 then (if x5.length < 17592186044416 then (impl_branches.l0 k x0 x1 (x5 ++ [x10]) x8 x9 (wrap64 (x10 + 1))) else (none)) else (if 0 ≤ x1 then (if x1 < (x0.length : Int) then (if (rd x0 x1) = x10 then (if x5.length < 17592186044416 then (impl_branches.l0 k x0 x1 (x5 ++ [x10]) x8 x9 (wrap64 (x10 + 1))) else (none)) else (impl_branches.l0 k x0 x1 x5 x8 x9 (wrap64 (x10 + 1)))) else (none)) else (none))) else (none)) else (none)) else (some x5)
def impl_branches.f (k : Nat) (l0 : List Int) (a1 : Int) : Option (List Int) := impl_branches.l0 k l0 a1 ([] : List Int) l0 (l0.length : Int) 0
theorem impl_branches.mono_l : ∀ k, (∀ y0 y1 y2 y3 y4 y5, LeO (impl_branches.l0 k y0 y1 y2 y3 y4 y5) (impl_branches.l0 (k + 1) y0 y1 y2 y3 y4 y5))
 | 0 => fun _ _ _ _ _ _ r h => by simp [impl_branches.l0] at h
 | k + 1 => by
  have ih0 := impl_branches.mono_l k
  ·intro y0 y1 y2 y3 y4 y5
   unfold impl_branches.l0
   repeat' first
   | (with_reducible exact ih0 _ _ _ _ _ _)
   | (with_reducible exact LeO.refl _)
   | (with_reducible exact LeO.none _)
   | (with_reducible refine LeO.ite ?_ ?_)
   | (with_reducible refine LeO.bind ?_ (fun _ => ?_))
theorem impl_branches.mono : ∀ a0 a1 k, LeO (impl_branches.f k a0 a1) (impl_branches.f (k + 1) a0 a1) := by
 intro a0 a1 k
 have ih0 := impl_branches.mono_l k
 unfold impl_branches.f
 repeat' first
   | (with_reducible exact ih0 _ _ _ _ _ _)
   | (with_reducible exact LeO.refl _)
   | (with_reducible exact LeO.none _)
   | (with_reducible refine LeO.ite ?_ ?_)
   | (with_reducible refine LeO.bind ?_ (fun _ => ?_))
set_option maxHeartbeats 8000000 in
set_option maxRecDepth 100000 in
theorem impl_branches.calls (k : Nat) (A0 : Option Addr) (c0 : Nat) (l0 : List Int) (a1 : Int) (r : List Int) (w : World) (hr0 : Kd.C (Kd.int .i64) w A0 l0.length l0) (hc0 : l0.length ≤ c0) (h : impl_branches.f k l0 a1 = some r) :
  Calls Try.prog 98 #[.slice A0 l0.length c0, .int .i64 a1] w fun e w' => ∃ v0_ : Value, e = .returned (v0_) ∧ Kd.R (Kd.int .i64) 3 w' w.heap.size (fun _ => True) v0_ r ∧ Below w.heap.size w w' := by
 have HR0 := Aside0.mk hr0
 have HC0 := Aside0.mk hc0
 clear hr0 hc0
 have HB := Aside0.mk (Below.refl w.heap.size w)
 have H : (impl_branches.l0 k l0 a1 ([] : List Int) l0 (l0.length : Int) 0) = some r := h
 clear h
 have H' := Aside0.mk H
 clear H
 go_enter Try.func98, Try.ntmps98
 go_wp2
 go_loopg [5, 10] k (fun kq v5 v10 w' => ∃ (x5_1 : List Int) (x10_1 : Int), v10 = .int .i64 x10_1 ∧ Aside0 (impl_branches.l0 kq l0 a1 x5_1 l0 (l0.length : Int) x10_1 = some r) ∧ Aside0 (kq ≤ k) ∧ Aside0 (Kd.R (Kd.int .i64) 3 w' w.heap.size (fun _ => True) v5 x5_1) ∧ Aside0 (Below w.heap.size w w'))
 case atStart => exact ⟨(([] : List Int)), (0), (by first | rfl | (simp; done) | (simp [*]; done)), H', ⟨Nat.le_refl _⟩, ⟨by first | exact Kd.R_nil _ _ _ _ _ | exact Kd.N_nil _ _ _ _ _ | exact Kd.V_nil _ _ _ _ _ | exact Kd.Q_nil _ _ _ _ _ | exact Kd.S_nil _ _ _ _ _⟩, ⟨hB HB⟩⟩
 case round =>
  clear H'
  obtain ⟨x5_1, x10_1, rfl, HA, HK1, HO_5, HB⟩ := hrel
  cases gk with
  | zero => exact absurd HA.out (by simp [impl_branches.l0])
  | succ k1 =>
   have H := HA.out
   clear HA
   simp only [impl_branches.l0] at H
   by_cases c3 : x10_1 < (l0.length : Int)
   rotate_left
   ·rw [if_neg c3] at H
    have c3b0 : decide (x10_1 < (l0.length : Int)) = false := decide_eq_false c3
    clear c3
    obtain rfl := Option.some.inj H
    go_wp2
    go_ret
    exact ⟨_, by first | rfl | (simp [errW_none, errW_some] <;> rfl) | (simp [*, errW_none, errW_some] <;> rfl), by (with_reducible repeat (first | apply Kd.R_alloc | apply Kd.R_drewN | apply Kd.R_drew)); exact HO_5.out, by repeat (first | (with_reducible first | exact HB.out | apply below_alloc | apply pw_below_drewN | apply below_drew1) | exact HB.out)⟩
   rw [if_pos c3] at H
   have c3b0 : decide (x10_1 < (l0.length : Int)) = true := decide_eq_true c3
   clear c3
   by_cases c4 : 0 ≤ x10_1
   rotate_left
   ·rw [if_neg c4] at H
    exact absurd H (by simp)
   rw [if_pos c4] at H
   have c4b0 : decide (0 ≤ x10_1) = true := decide_eq_true c4
   clear c4
   by_cases c5 : x10_1 < (l0.length : Int)
   rotate_left
   ·rw [if_neg c5] at H
    exact absurd H (by simp)
   rw [if_pos c5] at H
   have c5b0 : decide (x10_1 < (l0.length : Int)) = true := decide_eq_true c5
   clear c5
   by_cases c6 : (rd l0 x10_1) = a1
   ·rw [if_pos c6] at H
    have c6b0 : ((rd l0 x10_1) == a1) = true := beq_iff_eq.mpr c6
    have c6b1 : ((rd l0 x10_1) != a1) = false := bne_eq_false_iff_eq.mpr c6
    clear c6
    by_cases c7 : x5_1.length < 17592186044416
    rotate_left
    ·rw [if_neg c7] at H
     exact absurd H (by simp)
    rw [if_pos c7] at H
    have LMc7 := Aside0.mk c7
    clear c7
    obtain ⟨y236, hy236⟩ : ∃ y_ : List Int, y_ = (x5_1 ++ [x10_1]) := ⟨_, rfl⟩
    replace H : (impl_branches.l0 k1 l0 a1 y236 l0 (l0.length : Int) (wrap64 (x10_1 + 1))) = some r := by first | (rw [hy236]; with_reducible exact H) | (have H2_ := (Option.bind_some _ _).symm.trans H; rw [hy236]; with_reducible exact H2_) | (have H2_ := (Option.bind_some _ _).symm.trans H; with_reducible exact H2_) | with_reducible exact H | (rw [hy236]; exact H) | exact H
    have Ny236 := Aside0.mk hy236
    clear hy236
    have H' := Aside0.mk H
    clear H
    have p235 : 0 ≤ (x10_1 : Int) := of_decide_eq_true (by first | (with_reducible assumption) | assumption)
    have q235 : x10_1 < (l0.length : Int) := of_decide_eq_true (by first | (with_reducible assumption) | assumption)
    obtain ⟨ad235, e235, hx235_0⟩ := Kd.at_int HR0.out x10_1 p235 q235
    cases e235
    replace hx235_0 := (HB.out.cell (World.block_lt_of_cell? w _ hx235_0)).trans hx235_0
    replace p235 := eq_true p235
    replace q235 := eq_true q235
    go_wp2_with (first | ((with_reducible refine gate_builtin (b := .append) (xs := #[.tmp 26, .tmp 28]) rfl ?_); at_builtin; refine Kd.R_append (Kd.int .i64) (w0 := w) w.heap.size rfl (.tmp 26) (.tmp 28) 22 3 (.int .i64 0) 8 rfl Try.underlying22 info3 rfl (by decide) (by omega) u5 x5_1 x10_1 [.int .i64 x10_1] (fun _ => True) (fun _ => False) rfl rfl ?aP (fun _ hk => hk.elim) ?aF ?aO ?aB ?aS ?aL ?_; (case aP => exact rfl); (case aB => exact (hB HB)); (case aF => exact (fun _ _ => trivial)); (case aO => exact (ra HO_5.out)); (case aS => exact (below_size (hB HB))); (case aL => have := LMc7.out; omega); intro v237 w8 ho hb hg hat; rw [← Ny236.out] at ho; have HO238 := Aside0.mk (ho); replace HB := Aside0.mk (hb); clear HO_5; clear ho hb hg hat))
    go_roundg k1
    case measure => have := HK1.out; omega
    case rel => exact ⟨(y236), (wrap64 (x10_1 + 1)), (by first | rfl | (simp; done) | (simp [*]; done)), H', ⟨by have := HK1.out; omega⟩, ⟨ra HO238.out⟩, ⟨hB HB⟩⟩
   rw [if_neg c6] at H
   have c6b0 : ((rd l0 x10_1) == a1) = false := beq_eq_false_iff_ne.mpr c6
   have c6b1 : ((rd l0 x10_1) != a1) = true := bne_iff_ne.mpr c6
   by_cases c9 : 0 ≤ a1
   rotate_left
   ·rw [if_neg c9] at H
    exact absurd H (by simp)
   rw [if_pos c9] at H
   have c9b0 : decide (0 ≤ a1) = true := decide_eq_true c9
   clear c9
   by_cases c10 : a1 < (l0.length : Int)
   rotate_left
   ·rw [if_neg c10] at H
    exact absurd H (by simp)
   rw [if_pos c10] at H
   have c10b0 : decide (a1 < (l0.length : Int)) = true := decide_eq_true c10
   clear c10
   by_cases c11 : (rd l0 a1) = x10_1
   rotate_left
   ·rw [if_neg c11] at H
    have c11b0 : ((rd l0 a1) == x10_1) = false := beq_eq_false_iff_ne.mpr c11
    have c11b1 : ((rd l0 a1) != x10_1) = true := bne_iff_ne.mpr c11
    have H' := Aside0.mk H
    clear H
    have p235 : 0 ≤ (x10_1 : Int) := of_decide_eq_true (by first | (with_reducible assumption) | assumption)
    have q235 : x10_1 < (l0.length : Int) := of_decide_eq_true (by first | (with_reducible assumption) | assumption)
    obtain ⟨ad235, e235, hx235_0⟩ := Kd.at_int HR0.out x10_1 p235 q235
    cases e235
    replace hx235_0 := (HB.out.cell (World.block_lt_of_cell? w _ hx235_0)).trans hx235_0
    replace p235 := eq_true p235
    replace q235 := eq_true q235
    have p239 : 0 ≤ (a1 : Int) := of_decide_eq_true (by first | (with_reducible assumption) | assumption)
    have q239 : a1 < (l0.length : Int) := of_decide_eq_true (by first | (with_reducible assumption) | assumption)
    obtain ⟨ad239, e239, hx239_0⟩ := Kd.at_int HR0.out a1 p239 q239
    obtain rfl : ad235 = ad239 := (by injection e239)
    replace hx239_0 := (HB.out.cell (World.block_lt_of_cell? w _ hx239_0)).trans hx239_0
    replace p239 := eq_true p239
    replace q239 := eq_true q239
    go_wp2
    go_roundg k1
    case measure => have := HK1.out; omega
    case rel => exact ⟨(x5_1), (wrap64 (x10_1 + 1)), (by first | rfl | (simp; done) | (simp [*]; done)), H', ⟨by have := HK1.out; omega⟩, ⟨ra HO_5.out⟩, ⟨hB HB⟩⟩
   rw [if_pos c11] at H
   have c11b0 : ((rd l0 a1) == x10_1) = true := beq_iff_eq.mpr c11
   have c11b1 : ((rd l0 a1) != x10_1) = false := bne_eq_false_iff_eq.mpr c11
   clear c11
   by_cases c12 : x5_1.length < 17592186044416
   rotate_left
   ·rw [if_neg c12] at H
    exact absurd H (by simp)
   rw [if_pos c12] at H
   have LMc12 := Aside0.mk c12
   clear c12
   obtain ⟨y240, hy240⟩ : ∃ y_ : List Int, y_ = (x5_1 ++ [x10_1]) := ⟨_, rfl⟩
   replace H : (impl_branches.l0 k1 l0 a1 y240 l0 (l0.length : Int) (wrap64 (x10_1 + 1))) = some r := by first | (rw [hy240]; with_reducible exact H) | (have H2_ := (Option.bind_some _ _).symm.trans H; rw [hy240]; with_reducible exact H2_) | (have H2_ := (Option.bind_some _ _).symm.trans H; with_reducible exact H2_) | with_reducible exact H | (rw [hy240]; exact H) | exact H
   have Ny240 := Aside0.mk hy240
   clear hy240
   have H' := Aside0.mk H
   clear H
   have p235 : 0 ≤ (x10_1 : Int) := of_decide_eq_true (by first | (with_reducible assumption) | assumption)
   have q235 : x10_1 < (l0.length : Int) := of_decide_eq_true (by first | (with_reducible assumption) | assumption)
   obtain ⟨ad235, e235, hx235_0⟩ := Kd.at_int HR0.out x10_1 p235 q235
   cases e235
   replace hx235_0 := (HB.out.cell (World.block_lt_of_cell? w _ hx235_0)).trans hx235_0
   replace p235 := eq_true p235
   replace q235 := eq_true q235
   have p239 : 0 ≤ (a1 : Int) := of_decide_eq_true (by first | (with_reducible assumption) | assumption)
   have q239 : a1 < (l0.length : Int) := of_decide_eq_true (by first | (with_reducible assumption) | assumption)
   obtain ⟨ad239, e239, hx239_0⟩ := Kd.at_int HR0.out a1 p239 q239
   obtain rfl : ad235 = ad239 := (by injection e239)
   replace hx239_0 := (HB.out.cell (World.block_lt_of_cell? w _ hx239_0)).trans hx239_0
   replace p239 := eq_true p239
   replace q239 := eq_true q239
   go_wp2_with (first | ((with_reducible refine gate_builtin (b := .append) (xs := #[.tmp 26, .tmp 28]) rfl ?_); at_builtin; refine Kd.R_append (Kd.int .i64) (w0 := w) w.heap.size rfl (.tmp 26) (.tmp 28) 22 3 (.int .i64 0) 8 rfl Try.underlying22 info3 rfl (by decide) (by omega) u5 x5_1 x10_1 [.int .i64 x10_1] (fun _ => True) (fun _ => False) rfl rfl ?aP (fun _ hk => hk.elim) ?aF ?aO ?aB ?aS ?aL ?_; (case aP => exact rfl); (case aB => exact (hB HB)); (case aF => exact (fun _ _ => trivial)); (case aO => exact (ra HO_5.out)); (case aS => exact (below_size (hB HB))); (case aL => have := LMc12.out; omega); intro v241 w13 ho hb hg hat; rw [← Ny240.out] at ho; have HO242 := Aside0.mk (ho); replace HB := Aside0.mk (hb); clear HO_5; clear ho hb hg hat))
   go_roundg k1
   case measure => have := HK1.out; omega
   case rel => exact ⟨(y240), (wrap64 (x10_1 + 1)), (by first | rfl | (simp; done) | (simp [*]; done)), H', ⟨by have := HK1.out; omega⟩, ⟨ra HO242.out⟩, ⟨hB HB⟩⟩

end Go.Proofs.Ytfkjnpgpofcinaa.P
