import Derived.Shelf.Sort.Plain
import Derived.Shelf.Slices.In.SortNone
import Derived.Sort.OwnSortedInts
import Derived.Shelf.SlicesE.IndexFunc
import Derived.Test.YtfkjnpgpofcinaaF0
import Derived.Test.YtfkjnpgpofcinaaF3
namespace Go.Proofs.Ytfkjnpgpofcinaa.P
open Go.RowKit Go.Proofs.YtfkjnpgpofcinaaW.PrintWords Go.Proofs.YtfkjnpgpofcinaaW.PrintLast Go.Proofs.YtfkjnpgpofcinaaW.PrintMore
attribute [local go_sem] max2_int min2_int max_two min_two max_three min_three max_four min_four   -- for this text's walks alone
set_option linter.unusedVariables false
set_option linter.unusedSimpArgs false
attribute [local go_sem high] eqA45 eqA76 eqA83

mutual
def impl_spread.l0 : Nat → List Int → List (S76) → List (S138) → Option ((List (S76)))
 | 0, _, _, _ => none
 | k + 1, x0, x5, x6 => if (x6.length : Int) > 0 then (if 0 < (x6.length : Int) then ((impl_branches.f k x0 ((rd_T138 x6 0).f0)).bind fun t248 => (impl_spread.l1 k x0 x5 x6 t248 (t248.length : Int) 0 ((rd_T138 x6 0).f0) ((rd_T138 x6 0).f1))) else (none)) else (some x5)
def impl_spread.l1 : Nat → List Int → List (S76) → List (S138) → List Int → Int → Int → Int → Int → Option ((List (S76)))
 | 0, _, _, _, _, _, _, _, _ => none
 | k + 1, x0, x5, x6, x24, x25, x26, x248000, x248001 => if x26 < x25 then (if 0 ≤ x26 then (if x26 < (x24.length : Int) then (if (rd x24 x26) = x248001 then (impl_spread.l1 k x0 x5 x6 x24 x25 (wrap64 (x26 + 1)) x248000 x248001) else (if x5.length < 8796093022208 then (if x6.length < 8796093022208 then (impl_spread.l1 k x0 (x5 ++ [(⟨x248000, rd x24 x26⟩ : S76)]) (x6 ++ [(⟨rd x24 x26, x248000⟩ : S138)]) x24 x25 (wrap64 (x26 + 1)) x248000 x248001) else (none)) else (none))) else (none)) else (none)) else (if 1 ≤ (x6.length : Int) then (impl_spread.l0 k x0 x5 (x6.drop (1 : Int).toNat)) else (none))
end
def impl_spread.f (k : Nat) (l0 : List Int) (a1 : Int) : Option ((List (S76))) := impl_spread.l0 k l0 ([] : List (S76)) (([(⟨a1, (-1)⟩ : S138)] : List (S138)))
theorem impl_spread.mono_l : ∀ k, (∀ y0 y1 y2, LeO (impl_spread.l0 k y0 y1 y2) (impl_spread.l0 (k + 1) y0 y1 y2)) ∧ (∀ y0 y1 y2 y3 y4 y5 y6 y7, LeO (impl_spread.l1 k y0 y1 y2 y3 y4 y5 y6 y7) (impl_spread.l1 (k + 1) y0 y1 y2 y3 y4 y5 y6 y7))
 | 0 => ⟨fun _ _ _ r h => by simp [impl_spread.l0] at h, fun _ _ _ _ _ _ _ _ r h => by simp [impl_spread.l1] at h⟩
 | k + 1 => by
  obtain ⟨ih0, ih1⟩ := impl_spread.mono_l k
  refine ⟨?_, ?_⟩
  ·intro y0 y1 y2
   unfold impl_spread.l0
   repeat' first
   | (with_reducible exact ih0 _ _ _)
   | (with_reducible exact ih1 _ _ _ _ _ _ _ _)
   | (with_reducible exact impl_branches.mono _ _ _)
   | (with_reducible exact LeO.refl _)
   | (with_reducible exact LeO.none _)
   | (with_reducible refine LeO.ite ?_ ?_)
   | (with_reducible refine LeO.bind ?_ (fun _ => ?_))
  ·intro y0 y1 y2 y3 y4 y5 y6 y7
   unfold impl_spread.l1
   repeat' first
   | (with_reducible exact ih0 _ _ _)
   | (with_reducible exact ih1 _ _ _ _ _ _ _ _)
   | (with_reducible exact impl_branches.mono _ _ _)
   | (with_reducible exact LeO.refl _)
   | (with_reducible exact LeO.none _)
   | (with_reducible refine LeO.ite ?_ ?_)
   | (with_reducible refine LeO.bind ?_ (fun _ => ?_))
theorem impl_spread.mono : ∀ a0 a1 k, LeO (impl_spread.f k a0 a1) (impl_spread.f (k + 1) a0 a1) := by
 intro a0 a1 k
 obtain ⟨ih0, ih1⟩ := impl_spread.mono_l k
 unfold impl_spread.f
 repeat' first
   | (with_reducible exact ih0 _ _ _)
   | (with_reducible exact ih1 _ _ _ _ _ _ _ _)
   | (with_reducible exact impl_branches.mono _ _ _)
   | (with_reducible exact LeO.refl _)
   | (with_reducible exact LeO.none _)
   | (with_reducible refine LeO.ite ?_ ?_)
   | (with_reducible refine LeO.bind ?_ (fun _ => ?_))
set_option maxHeartbeats 8000000 in
set_option maxRecDepth 100000 in
theorem impl_spread.calls (k : Nat) (A0 : Option Addr) (c0 : Nat) (l0 : List Int) (a1 : Int) (r : List (S76)) (w : World) (hr0 : Kd.C (Kd.int .i64) w A0 l0.length l0) (hc0 : l0.length ≤ c0) (h : impl_spread.f k l0 a1 = some r) :
  Calls Try.prog 103 #[.slice A0 l0.length c0, .int .i64 a1] w fun e w' => ∃ v0_ : Value, e = .returned (v0_) ∧ Kd.R k76 76 w' w.heap.size (fun _ => True) v0_ r ∧ Below w.heap.size w w' := by
 have hu138 := Try.underlying138
 have hu76 := Try.underlying76
 have HR0 := Aside0.mk hr0
 have HC0 := Aside0.mk hc0
 clear hr0 hc0
 have HB := Aside0.mk (Below.refl w.heap.size w)
 have H : (impl_spread.l0 k l0 ([] : List (S76)) (([(⟨a1, (-1)⟩ : S138)] : List (S138)))) = some r := h
 clear h
 obtain ⟨y243, hy243⟩ : ∃ y_ : List (S138), y_ = (([(⟨a1, (-1)⟩ : S138)] : List (S138))) := ⟨_, rfl⟩
 replace H : (impl_spread.l0 k l0 ([] : List (S76)) y243) = some r := by first | (rw [hy243]; with_reducible exact H) | (have H2_ := (Option.bind_some _ _).symm.trans H; rw [hy243]; with_reducible exact H2_) | (have H2_ := (Option.bind_some _ _).symm.trans H; with_reducible exact H2_) | with_reducible exact H | (rw [hy243]; exact H) | exact H
 have Ny243 := Aside0.mk hy243
 clear hy243
 have H' := Aside0.mk H
 clear H
 go_enter Try.func103, Try.ntmps103
 go_wp2_with (first | ((with_reducible refine gate_dst (N := 12) rfl ?_); refine Kd.R_lit k138 _ 138 ?hg (N := 12) ?hd (xs := ([(⟨a1, (-1)⟩ : S138)] : List (S138))) (inner := [.int .i64 a1, .int .i64 (-1)]) (ok := fun _ => True) (okp := fun _ => True) ?hr ?hp (fun _ hk => hk) trivial (Below.refl _ _) (Nat.le_refl _) (by simp) ?_; (case hd => rfl); (case hg => rfl); (case hr => first | (go_simp; done) | (go_simp; rfl)); (case hp => exact (Reps.c2 (show Kd.M k138 _ _ _ (⟨a1, (-1)⟩ : S138) [.int .i64 a1, .int .i64 (-1)] from (k138_mkM _ _ _ (⟨a1, (-1)⟩ : S138) )) (Reps.none _ _))); intro v244 w3 ho4 hb hg_ hnew_; clear hg_ hnew_; (first | rw [← Ny243.out] at ho4 | (simp only [Int.reduceToNat] at ho4; rw [← Ny243.out] at ho4)); have HO245 := Aside0.mk (Kd.R_lower ho4 (below_size (hB HB))); replace HB := bst_ HB hb; clear hb ho4))
 go_loopg [5, 6] k (fun kq v5 v6 w' => ∃ (x5_1 : List (S76)) (x6_1 : List (S138)), Aside0 (impl_spread.l0 kq l0 x5_1 x6_1 = some r) ∧ Aside0 (kq ≤ k) ∧ Aside0 (Kd.R k76 76 w' w.heap.size (fun _ => True) v5 x5_1) ∧ Aside0 (Kd.Q k138 138 w' w.heap.size (fun _ => True) v6 x6_1) ∧ Aside0 (Below w.heap.size w w'))
 case atStart => exact ⟨(([] : List (S76))), (y243), H', ⟨Nat.le_refl _⟩, ⟨by first | exact Kd.R_nil _ _ _ _ _ | exact Kd.N_nil _ _ _ _ _ | exact Kd.V_nil _ _ _ _ _ | exact Kd.Q_nil _ _ _ _ _ | exact Kd.S_nil _ _ _ _ _⟩, ⟨Kd.Q_of_R (ra HO245.out)⟩, ⟨hB HB⟩⟩
 case round =>
  clear H'
  try clear c2
  obtain ⟨x5_1, x6_1, HA, HK1, HO_5, HO_6, HB⟩ := hrel
  cases gk with
  | zero => exact absurd HA.out (by simp [impl_spread.l0])
  | succ k1 =>
   have H := HA.out
   clear HA
   simp only [impl_spread.l0] at H
   by_cases c5 : (x6_1.length : Int) > 0
   rotate_left
   ·rw [if_neg c5] at H
    have c5b0 : decide (0 < (x6_1.length : Int)) = false := decide_eq_false c5
    have c5b1 : decide (0 < x6_1.length) = false := decide_eq_false (by omega)
    clear c5
    obtain rfl := Option.some.inj H
    obtain ⟨Ao27, co27, eo27, _⟩ := Kd.Q_slice HO_6.out
    subst eo27
    go_wp2
    go_ret
    exact ⟨_, by first | rfl | (simp [errW_none, errW_some] <;> rfl) | (simp [*, errW_none, errW_some] <;> rfl), by (with_reducible repeat (first | apply Kd.R_alloc | apply Kd.R_drewN | apply Kd.R_drew)); exact HO_5.out, by repeat (first | (with_reducible first | exact HB.out | apply below_alloc | apply pw_below_drewN | apply below_drew1) | exact HB.out)⟩
   rw [if_pos c5] at H
   have c5b0 : decide (0 < (x6_1.length : Int)) = true := decide_eq_true c5
   have c5b1 : decide (0 < x6_1.length) = true := decide_eq_true (by omega)
   clear c5
   by_cases c6 : 0 < (x6_1.length : Int)
   rotate_left
   ·rw [if_neg c6] at H
    exact absurd H (by simp)
   rw [if_pos c6] at H
   have c6b0 : decide (0 < (x6_1.length : Int)) = true := decide_eq_true c6
   have c6b1 : decide (0 < x6_1.length) = true := decide_eq_true (by omega)
   clear c6
   replace H := Option.bind_eq_some_iff.mp H
   obtain ⟨t248, A70, H⟩ := H
   replace H : (impl_spread.l1 k1 l0 x5_1 x6_1 t248 (t248.length : Int) 0 ((rd_T138 x6_1 0).f0) ((rd_T138 x6_1 0).f1)) = some r := H
   have A7 := Aside0.mk A70
   clear A70
   have H' := Aside0.mk H
   clear H
   obtain ⟨Ao8, co8, eo8, _⟩ := Kd.Q_slice HO_6.out
   subst eo8
   have p246 : 0 ≤ (0 : Int) := (by omega)
   have q246 : 0 < (x6_1.length : Int) := of_decide_eq_true (by first | (with_reducible assumption) | assumption)
   obtain ⟨ad246, e246, hx246_0, hx246_1⟩ := at_T138 (Kd.Q_reads' HO_6.out).2.2 0 p246 q246
   cases e246
   have qi246 : (0 < x6_1.length) = True := eq_true (by omega)
   (try rw [show ((0 : Int)).toNat = 0 from rfl] at hx246_0)
   (try rw [show 0 * 2 = 0 from rfl] at hx246_0)
   (try rw [Addr.add_zero'] at hx246_0)
   (try rw [show ((0 : Int)).toNat = 0 from rfl] at hx246_1)
   (try rw [show 0 * 2 = 0 from rfl] at hx246_1)
   (try rw [Addr.add_zero'] at hx246_1)
   replace p246 := eq_true p246
   replace q246 := eq_true q246
   go_wp2_with (first | ((with_reducible refine gate_dst (N := 7) rfl ?_); refine box_event ?hg (N := 7) ?hd (cs := #[.int .i64 0, .int .i64 0]) (t := 138) ?hr ?_; (case hd => rfl); (case hg => rfl); (case hr => first | (go_simp; done) | (go_simp; rfl)); intro gb247 hg w9 hbox hb; have BK247 := Aside0.mk (hbox); have GW247 := gw_ hg HB; have GE247 := gw_ hg HB; replace HO_5 := rb_ HO_5 hb; replace HO_6 := Aside0.mk (Kd.Q_below (Kd.Q_elderB (by (with_reducible repeat (first | apply Kd.Q_alloc | apply Kd.Q_drewN | apply Kd.Q_drew)); exact HO_6.out) gb247 (Nat.le_of_eq hg.symm)) hb); replace HB := bst_ HB hb; clear hb hbox hg; have hcz10_0 : w9.cell? ⟨gb247, 0, none⟩ = some (.int .i64 0) := bc_ BK247 0; have hcz10_1 : w9.cell? ⟨gb247, 1, none⟩ = some (.int .i64 0) := bc_ BK247 1; have hfz10_0 := blk_frozen BK247.out 0; have hfz10_1 := blk_frozen BK247.out 1) | ((with_reducible refine gate_callee (f := 98) rfl ?_); refine goesL_ (some 24) rfl rfl Try.func98 (by kernel_rfl) rfl #[.slice A0 l0.length c0, .int .i64 ((rd_T138 x6_1 0).f0)] rfl tm_ ?_; (with_reducible refine (impl_branches.calls k1 _ _ l0 ((rd_T138 x6_1 0).f0) t248 _ ?side1 ?side2 A7.out).mono ?_); (case side1 => exact Kd.C_below HR0.out (hB HB)); (case side2 => exact HC0.out); rintro e w11 ⟨v249, rfl, ho0, hb⟩; refine ⟨_, rfl, ?_⟩; have HO250 := Aside0.mk (Kd.R_lower ho0 (below_size (hB HB))); replace HO_5 := Aside0.mk (Kd.R_below (ra (Kd.R_mono (Kd.R_far (p := ⟨gb247, 1, none⟩) (Kd.R_far (p := ⟨gb247, 0, none⟩) (Kd.R_types HO_5.out BK247.out (by decide)) (fun _ hk => hk.2) (.int .i64 ((rd_T138 x6_1 0).f0))) (fun _ hk => hk.2) (.int .i64 ((rd_T138 x6_1 0).f1))) (fun _ h_ => h_.1))) hb); replace HO_6 := Aside0.mk (Kd.Q_below (by (with_reducible repeat (first | apply Kd.Q_alloc | apply Kd.Q_drewN | apply Kd.Q_drew)); exact (Kd.Q_mono (Kd.Q_far (p := ⟨gb247, 1, none⟩) (Kd.Q_far (p := ⟨gb247, 0, none⟩) (Kd.Q_mono HO_6.out (fun k_ hk => (⟨hk, hk.2⟩ : _ ∧ k_ ≠ gb247))) (fun _ hk => hk.2) (.int .i64 ((rd_T138 x6_1 0).f0))) (fun _ hk => hk.2) (.int .i64 ((rd_T138 x6_1 0).f1))) (fun _ h_ => h_.1))) hb); replace BK247 := Aside0.mk (blk_below (g := gb247) (o := .cells #[.int .i64 ((rd_T138 x6_1 0).f0), .int .i64 ((rd_T138 x6_1 0).f1)] 138 (0, 0)) (by (with_reducible repeat (first | refine blk_drewN ?_ _ | refine blk_drew ?_ | refine blk_alloc ?_ _)); refine blk_put (cs := #[.int .i64 ((rd_T138 x6_1 0).f0), .int .i64 0]) ?_ 1 _ rfl; (with_reducible repeat (first | refine blk_drewN ?_ _ | refine blk_drew ?_ | refine blk_alloc ?_ _)); refine blk_put (cs := #[.int .i64 0, .int .i64 0]) ?_ 0 _ rfl; (with_reducible repeat (first | refine blk_drewN ?_ _ | refine blk_drew ?_ | refine blk_alloc ?_ _)); exact BK247.out) hb); replace HB := bst_ HB hb; clear hb ho0; obtain ⟨Ao12, co12, eo12⟩ := Kd.R_slice HO250.out; subst eo12))
   go_loopg [5, 6, 26] k1 (fun kq v5 v6 v26 w' => ∃ (x5_2 : List (S76)) (x6_2 : List (S138)) (x26_2 : Int), v26 = .int .i64 x26_2 ∧ Aside0 (impl_spread.l1 kq l0 x5_2 x6_2 t248 (t248.length : Int) x26_2 ((rd_T138 x6_1 0).f0) ((rd_T138 x6_1 0).f1) = some r) ∧ Aside0 (kq ≤ k1) ∧ Aside0 (Kd.R k76 76 w' w.heap.size (fun _ => True) v5 x5_2) ∧ Aside0 (Kd.Q k138 138 w' w.heap.size (fun k_ => k_ ≠ gb247) v6 x6_2) ∧ Aside0 (Kd.R (Kd.int .i64) 3 w' w.heap.size (fun _ => True) (.slice Ao12 t248.length co12) t248) ∧ Aside0 (w'.heap[gb247]? = some (.cells #[.int .i64 ((rd_T138 x6_1 0).f0), .int .i64 ((rd_T138 x6_1 0).f1)] 138 (0, 0))) ∧ Aside0 (Below w.heap.size w w'))
   case atStart => exact ⟨(x5_1), (x6_1), (0), (by first | rfl | (simp; done) | (simp [*]; done)), H', ⟨Nat.le_refl _⟩, ⟨ra HO_5.out⟩, ⟨by (with_reducible repeat (first | apply Kd.Q_alloc | apply Kd.Q_drewN | apply Kd.Q_drew)); exact Kd.Q_mono HO_6.out (fun _ hk => hk.2)⟩, ⟨ra HO250.out⟩, ⟨by (with_reducible repeat (first | refine blk_drewN ?_ _ | refine blk_drew ?_ | refine blk_alloc ?_ _)); exact BK247.out⟩, ⟨hB HB⟩⟩
   case round =>
    clear H'
    try clear c2
    try clear c5
    try clear c5b0
    try clear c5b1
    try clear c6
    try clear c6b0
    try clear c6b1
    try clear hcz10_0
    try clear hcz10_1
    try clear hfz10_0
    try clear hfz10_1
    try clear hx246_0
    try clear hx246_1
    try clear p246
    try clear q246
    obtain ⟨x5_2, x6_2, x26_2, rfl, HA, HK2, HO_5, HO_6, HO_24, BK247, HB⟩ := hrel
    cases gk with
    | zero => exact absurd HA.out (by simp [impl_spread.l1])
    | succ k2 =>
     have H := HA.out
     clear HA
     simp only [impl_spread.l1] at H
     by_cases c13 : x26_2 < (t248.length : Int)
     rotate_left
     ·rw [if_neg c13] at H
      have c13b0 : decide (x26_2 < (t248.length : Int)) = false := decide_eq_false c13
      clear c13
      by_cases c24 : 1 ≤ (x6_2.length : Int)
      rotate_left
      ·rw [if_neg c24] at H
       exact absurd H (by simp)
      rw [if_pos c24] at H
      have c24b0 := eq_true c24
      have c24b1 : decide (1 ≤ (x6_2.length : Int)) = true := decide_eq_true c24
      clear c24
      obtain ⟨y258, hy258⟩ : ∃ y_ : List (S138), y_ = (x6_2.drop (1 : Int).toNat) := ⟨_, rfl⟩
      replace H : (impl_spread.l0 k2 l0 x5_2 y258) = some r := by first | (rw [hy258]; with_reducible exact H) | (have H2_ := (Option.bind_some _ _).symm.trans H; rw [hy258]; with_reducible exact H2_) | (have H2_ := (Option.bind_some _ _).symm.trans H; with_reducible exact H2_) | with_reducible exact H | (rw [hy258]; exact H) | exact H
      have Ny258 := Aside0.mk hy258
      clear hy258
      have H' := Aside0.mk H
      clear H
      obtain ⟨Ao25, co25, eo25, _⟩ := Kd.Q_slice HO_6.out
      subst eo25
      have q26 : (1 : Int) ≤ ((x6_2.length : Int) : Int) := of_decide_eq_true (by first | (with_reducible assumption) | assumption)
      obtain ⟨i026, hi026, _, hsz26, _⟩ := info_parts info138
      have hcut26 := cut_from (P := Try.prog) 139 138 .i64 Try.underlying139 hi026 2 hsz26 Ao25 x6_2.length co25 1 (by omega) q26
      have hr26 := Kd.Q_drop (k := (1 : Int).toNat) HO_6.out (by omega)
      obtain ⟨A26, hA26⟩ : ∃ A1, A1 = (if co25 = (1 : Int).toNat then Ao25 else (Ao25 : Option Addr).map (·.add ((1 : Int).toNat * 2))) := ⟨_, rfl⟩
      obtain ⟨c26, hc26⟩ : ∃ c1, c1 = co25 - (1 : Int).toNat := ⟨_, rfl⟩
      have hy26 : y258.length = x6_2.length - (1 : Int).toNat := (by rw [Ny258.out, List.length_drop])
      rw [← Ny258.out] at hr26
      rw [← hy26, ← hA26, ← hc26] at hcut26
      replace hr26 : Kd.Q k138 138 wr w.heap.size (fun k_ => k_ ≠ gb247) (.slice A26 y258.length c26) y258 := (by rw [hA26, hc26, hy26]; exact hr26)
      have HE26 : Aside0 ((Value.slice A26 y258.length c26).ownBlock = (.slice Ao25 x6_2.length co25 : Value).ownBlock) := ⟨by rw [hA26]; split <;> (cases (Ao25 : Option Addr) <;> rfl)⟩
      clear hy26 hi026 hsz26 HO_6 hA26 hc26
      have HO260 := Aside0.mk hr26
      clear hr26
      replace q26 := eq_true q26
      go_wp2
      go_roundg k2
      case measure => have := HK1.out; have := HK2.out; omega
      case rel => exact ⟨(x5_2), (y258), H', ⟨by have := HK1.out; have := HK2.out; omega⟩, ⟨ra HO_5.out⟩, ⟨by (with_reducible repeat (first | apply Kd.Q_alloc | apply Kd.Q_drewN | apply Kd.Q_drew)); exact Kd.Q_mono HO260.out (fun _ hk => trivial)⟩, ⟨hB HB⟩⟩
     rw [if_pos c13] at H
     have c13b0 : decide (x26_2 < (t248.length : Int)) = true := decide_eq_true c13
     clear c13
     by_cases c14 : 0 ≤ x26_2
     rotate_left
     ·rw [if_neg c14] at H
      exact absurd H (by simp)
     rw [if_pos c14] at H
     have c14b0 : decide (0 ≤ x26_2) = true := decide_eq_true c14
     clear c14
     by_cases c15 : x26_2 < (t248.length : Int)
     rotate_left
     ·rw [if_neg c15] at H
      exact absurd H (by simp)
     rw [if_pos c15] at H
     have c15b0 : decide (x26_2 < (t248.length : Int)) = true := decide_eq_true c15
     clear c15
     by_cases c16 : (rd t248 x26_2) = ((rd_T138 x6_1 0).f1)
     ·rw [if_pos c16] at H
      have c16b0 : ((rd t248 x26_2) == ((rd_T138 x6_1 0).f1)) = true := beq_iff_eq.mpr c16
      have c16b1 : ((rd t248 x26_2) != ((rd_T138 x6_1 0).f1)) = false := bne_eq_false_iff_eq.mpr c16
      clear c16
      have H' := Aside0.mk H
      clear H
      have p251 : 0 ≤ (x26_2 : Int) := of_decide_eq_true (by first | (with_reducible assumption) | assumption)
      have q251 : x26_2 < (t248.length : Int) := of_decide_eq_true (by first | (with_reducible assumption) | assumption)
      obtain ⟨ad251, e251, hx251_0⟩ := Kd.at_int (Kd.R_reads' HO_24.out).2.2 x26_2 p251 q251
      cases e251
      replace p251 := eq_true p251
      replace q251 := eq_true q251
      have hcz17_0 : wr.cell? ⟨gb247, 0, none⟩ = some (.int .i64 ((rd_T138 x6_1 0).f0)) := bc_ BK247 0
      have hcz17_1 : wr.cell? ⟨gb247, 1, none⟩ = some (.int .i64 ((rd_T138 x6_1 0).f1)) := bc_ BK247 1
      have hfz17_0 := blk_frozen BK247.out 0
      have hfz17_1 := blk_frozen BK247.out 1
      go_wp2
      go_roundg k2
      case measure => have := HK1.out; have := HK2.out; omega
      case rel => exact ⟨(x5_2), (x6_2), (wrap64 (x26_2 + 1)), (by first | rfl | (simp; done) | (simp [*]; done)), H', ⟨by have := HK1.out; have := HK2.out; omega⟩, ⟨ra HO_5.out⟩, ⟨by (with_reducible repeat (first | apply Kd.Q_alloc | apply Kd.Q_drewN | apply Kd.Q_drew)); exact HO_6.out⟩, ⟨ra HO_24.out⟩, ⟨by (with_reducible repeat (first | refine blk_drewN ?_ _ | refine blk_drew ?_ | refine blk_alloc ?_ _)); exact BK247.out⟩, ⟨hB HB⟩⟩
     rw [if_neg c16] at H
     have c16b0 : ((rd t248 x26_2) == ((rd_T138 x6_1 0).f1)) = false := beq_eq_false_iff_ne.mpr c16
     have c16b1 : ((rd t248 x26_2) != ((rd_T138 x6_1 0).f1)) = true := bne_iff_ne.mpr c16
     by_cases c18 : x5_2.length < 8796093022208
     rotate_left
     ·rw [if_neg c18] at H
      exact absurd H (by simp)
     rw [if_pos c18] at H
     have LMc18 := Aside0.mk c18
     clear c18
     obtain ⟨y252, hy252⟩ : ∃ y_ : List (S76), y_ = (x5_2 ++ [(⟨((rd_T138 x6_1 0).f0), rd t248 x26_2⟩ : S76)]) := ⟨_, rfl⟩
     replace H : (if x6_2.length < 8796093022208 then (impl_spread.l1 k2 l0 y252 (x6_2 ++ [(⟨rd t248 x26_2, ((rd_T138 x6_1 0).f0)⟩ : S138)]) t248 (t248.length : Int) (wrap64 (x26_2 + 1)) ((rd_T138 x6_1 0).f0) ((rd_T138 x6_1 0).f1)) else (none)) = some r := by first | (rw [hy252]; with_reducible exact H) | (have H2_ := (Option.bind_some _ _).symm.trans H; rw [hy252]; with_reducible exact H2_) | (have H2_ := (Option.bind_some _ _).symm.trans H; with_reducible exact H2_) | with_reducible exact H | (rw [hy252]; exact H) | exact H
     have Ny252 := Aside0.mk hy252
     clear hy252
     by_cases c19 : x6_2.length < 8796093022208
     rotate_left
     ·rw [if_neg c19] at H
      exact absurd H (by simp)
     rw [if_pos c19] at H
     have LMc19 := Aside0.mk c19
     clear c19
     obtain ⟨y255, hy255⟩ : ∃ y_ : List (S138), y_ = (x6_2 ++ [(⟨rd t248 x26_2, ((rd_T138 x6_1 0).f0)⟩ : S138)]) := ⟨_, rfl⟩
     replace H : (impl_spread.l1 k2 l0 y252 y255 t248 (t248.length : Int) (wrap64 (x26_2 + 1)) ((rd_T138 x6_1 0).f0) ((rd_T138 x6_1 0).f1)) = some r := by first | (rw [hy255]; with_reducible exact H) | (have H2_ := (Option.bind_some _ _).symm.trans H; rw [hy255]; with_reducible exact H2_) | (have H2_ := (Option.bind_some _ _).symm.trans H; with_reducible exact H2_) | with_reducible exact H | (rw [hy255]; exact H) | exact H
     have Ny255 := Aside0.mk hy255
     clear hy255
     have H' := Aside0.mk H
     clear H
     have p251 : 0 ≤ (x26_2 : Int) := of_decide_eq_true (by first | (with_reducible assumption) | assumption)
     have q251 : x26_2 < (t248.length : Int) := of_decide_eq_true (by first | (with_reducible assumption) | assumption)
     obtain ⟨ad251, e251, hx251_0⟩ := Kd.at_int (Kd.R_reads' HO_24.out).2.2 x26_2 p251 q251
     cases e251
     replace p251 := eq_true p251
     replace q251 := eq_true q251
     have hcz20_0 : wr.cell? ⟨gb247, 0, none⟩ = some (.int .i64 ((rd_T138 x6_1 0).f0)) := bc_ BK247 0
     have hcz20_1 : wr.cell? ⟨gb247, 1, none⟩ = some (.int .i64 ((rd_T138 x6_1 0).f1)) := bc_ BK247 1
     have hfz20_0 := blk_frozen BK247.out 0
     have hfz20_1 := blk_frozen BK247.out 1
     go_wp2_with (first | ((with_reducible refine gate_builtin (b := .append) (xs := #[.tmp 34, .tmp 39]) rfl ?_); at_builtin; refine Kd.R_append k76 (w0 := w) w.heap.size rfl (.tmp 34) (.tmp 39) 23 76 (.agg #[(.int .i64 0), (.int .i64 0)]) 16 rfl Try.underlying23 info76 rfl (by decide) (by omega) u5 x5_2 (⟨((rd_T138 x6_1 0).f0), rd t248 x26_2⟩ : S76) [.int .i64 ((rd_T138 x6_1 0).f0), .int .i64 (rd t248 x26_2)] (fun _ => True) (fun _ => False) rfl rfl ?aP (fun _ hk => hk.elim) ?aF ?aO ?aB ?aS ?aL ?_; (case aP => exact k76_mkM _ _ _ (⟨((rd_T138 x6_1 0).f0), rd t248 x26_2⟩ : S76)); (case aB => exact (hB HB)); (case aF => exact (fun _ _ => trivial)); (case aO => exact (ra HO_5.out)); (case aS => exact (below_size (hB HB))); (case aL => have := LMc18.out; omega); intro v253 w21 ho hb hg hat; rw [← Ny252.out] at ho; have HO254 := Aside0.mk (ho); replace HO_6 := Aside0.mk (Kd.Q_over' (by (with_reducible repeat (first | apply Kd.Q_alloc | apply Kd.Q_drewN | apply Kd.Q_drew)); exact HO_6.out) (Kd.R_typed (ra HO_5.out)) (by decide) hg); replace HO_24 := Aside0.mk (Kd.R_over' (ra HO_24.out) (Kd.R_typed (ra HO_5.out)) (by decide) hg); replace BK247 := Aside0.mk (blk_grown (g := gb247) (o := .cells #[.int .i64 ((rd_T138 x6_1 0).f0), .int .i64 ((rd_T138 x6_1 0).f1)] 138 (0, 0)) (ba BK247.out) hg (Kd.R_ne HO_5.out BK247.out (by decide))); replace HB := Aside0.mk (hb); clear HO_5; clear ho hb hg hat; have hcz22_0 : w21.cell? ⟨gb247, 0, none⟩ = some (.int .i64 ((rd_T138 x6_1 0).f0)) := bc_ BK247 0; have hcz22_1 : w21.cell? ⟨gb247, 1, none⟩ = some (.int .i64 ((rd_T138 x6_1 0).f1)) := bc_ BK247 1; have hfz22_0 := blk_frozen BK247.out 0; have hfz22_1 := blk_frozen BK247.out 1) | ((with_reducible refine gate_builtin (b := .append) (xs := #[.tmp 41, .tmp 46]) rfl ?_); at_builtin; refine Kd.Q_append k138 (w0 := w) w.heap.size rfl (.tmp 41) (.tmp 46) 139 138 (.agg #[(.int .i64 0), (.int .i64 0)]) 16 rfl Try.underlying139 info138 rfl (by decide) (by omega) u6 x6_2 (⟨rd t248 x26_2, ((rd_T138 x6_1 0).f0)⟩ : S138) [.int .i64 (rd t248 x26_2), .int .i64 ((rd_T138 x6_1 0).f0)] (fun k_ => k_ ≠ gb247) (fun _ => False) rfl rfl ?aP (fun _ hk => hk.elim) ?aF ?aO ?aB ?aS ?aL ?_; (case aP => exact k138_mkM _ _ _ (⟨rd t248 x26_2, ((rd_T138 x6_1 0).f0)⟩ : S138)); (case aB => exact (hB HB)); (case aF => exact (fun k_ hk => Kd.freshB (g := gb247) (o := .cells #[.int .i64 ((rd_T138 x6_1 0).f0), .int .i64 ((rd_T138 x6_1 0).f1)] 138 (0, 0)) (ba BK247.out) k_ hk)); (case aO => exact (by (with_reducible repeat (first | apply Kd.Q_alloc | apply Kd.Q_drewN | apply Kd.Q_drew)); exact HO_6.out)); (case aS => exact (below_size (hB HB))); (case aL => have := LMc19.out; omega); intro v256 w23 ho hb hg hat; rw [← Ny255.out] at ho; have HO257 := Aside0.mk (ho); replace HO_24 := Aside0.mk (Kd.R_over' (ra HO_24.out) (Kd.Q_typed (by (with_reducible repeat (first | apply Kd.Q_alloc | apply Kd.Q_drewN | apply Kd.Q_drew)); exact HO_6.out)) (by decide) hg); replace BK247 := Aside0.mk (blk_grown (g := gb247) (o := .cells #[.int .i64 ((rd_T138 x6_1 0).f0), .int .i64 ((rd_T138 x6_1 0).f1)] 138 (0, 0)) (ba BK247.out) hg (Kd.Q_away HO_6.out (fun _ hk => hk))); replace HO254 := Aside0.mk (Kd.R_over' (ra HO254.out) (Kd.Q_typed (by (with_reducible repeat (first | apply Kd.Q_alloc | apply Kd.Q_drewN | apply Kd.Q_drew)); exact HO_6.out)) (by decide) hg); replace HB := Aside0.mk (hb); clear HO_6; clear ho hb hg hat))
     go_roundg k2
     case measure => have := HK1.out; have := HK2.out; omega
     case rel => exact ⟨(y252), (y255), (wrap64 (x26_2 + 1)), (by first | rfl | (simp; done) | (simp [*]; done)), H', ⟨by have := HK1.out; have := HK2.out; omega⟩, ⟨ra HO254.out⟩, ⟨by (with_reducible repeat (first | apply Kd.Q_alloc | apply Kd.Q_drewN | apply Kd.Q_drew)); exact HO257.out⟩, ⟨ra HO_24.out⟩, ⟨by (with_reducible repeat (first | refine blk_drewN ?_ _ | refine blk_drew ?_ | refine blk_alloc ?_ _)); exact BK247.out⟩, ⟨hB HB⟩⟩

def sort_ren : Go.Shelf.Ren := ⟨fun | 125 => 149 | 128 => 166 | 129 => 167 | 189 => 136 | 215 => 168 | 216 => 150 | 257 => 148 | 294 => 158 | 295 => 159 | 296 => 160 | 297 => 161 | 298 => 162 | 299 => 163 | 300 => 164 | 301 => 165 | 328 => 171 | 329 => 172 | 330 => 173 | 331 => 174 | 332 => 175 | 343 => 178 | n => n, fun | 0 => 0 | 3 => 3 | 4 => 4 | 5 => 5 | 9 => 9 | 28 => 22 | 46 => 146 | 51 => 165 | 53 => 103 | 131 => 59 | 182 => 159 | 183 => 160 | 218 => 168 | 222 => 172 | 228 => 175 | 229 => 176 | n => n, fun n => n⟩
theorem sort_lays : Go.Proofs.Lays.n189 Try.prog sort_ren := {
  mixed := by kernel_rfl
  f125 := Try.func149.trans (congrArg some (by kernel_rfl))
  f128 := Try.func166.trans (congrArg some (by kernel_rfl))
  f129 := Try.func167.trans (congrArg some (by kernel_rfl))
  f189 := Try.func136.trans (congrArg some (by kernel_rfl))
  f215 := Try.func168.trans (congrArg some (by kernel_rfl))
  f216 := Try.func150.trans (congrArg some (by kernel_rfl))
  f257 := Try.func148.trans (congrArg some (by kernel_rfl))
  f294 := Try.func158.trans (congrArg some (by kernel_rfl))
  f295 := Try.func159.trans (congrArg some (by kernel_rfl))
  f296 := Try.func160.trans (congrArg some (by kernel_rfl))
  f297 := Try.func161.trans (congrArg some (by kernel_rfl))
  f298 := Try.func162.trans (congrArg some (by kernel_rfl))
  f299 := Try.func163.trans (congrArg some (by kernel_rfl))
  f300 := Try.func164.trans (congrArg some (by kernel_rfl))
  f301 := Try.func165.trans (congrArg some (by kernel_rfl))
  f328 := Try.func171.trans (congrArg some (by kernel_rfl))
  f329 := Try.func172.trans (congrArg some (by kernel_rfl))
  f330 := Try.func173.trans (congrArg some (by kernel_rfl))
  f331 := Try.func174.trans (congrArg some (by kernel_rfl))
  f332 := Try.func175.trans (congrArg some (by kernel_rfl))
  f343 := Try.func178.trans (congrArg some (by kernel_rfl))
  t0 := Try.underlying0
  a0 := Try.isAgg0
  z0 := Try.sizeOf0
  v0 := Try.zeroValue0
  t3 := Try.underlying3
  a3 := Try.isAgg3
  z3 := Try.sizeOf3
  v3 := Try.zeroValue3
  t4 := Try.underlying4
  a4 := Try.isAgg4
  z4 := Try.sizeOf4
  v4 := Try.zeroValue4
  t5 := Try.underlying5
  a5 := Try.isAgg5
  z5 := Try.sizeOf5
  v5 := Try.zeroValue5
  t9 := Try.underlying9
  a9 := Try.isAgg9
  z9 := Try.sizeOf9
  v9 := Try.zeroValue9
  t28 := Try.underlying22
  a28 := Try.isAgg22
  z28 := Try.sizeOf22
  v28 := Try.zeroValue22
  t46 := Try.underlying146
  a46 := Try.isAgg146
  z46 := Try.sizeOf146
  v46 := Try.zeroValue146
  t51 := Try.underlying165
  a51 := Try.isAgg165
  z51 := Try.sizeOf165
  v51 := Try.zeroValue165
  t53 := Try.underlying103
  a53 := Try.isAgg103
  z53 := Try.sizeOf103
  v53 := Try.zeroValue103
  t131 := Try.underlying59
  a131 := Try.isAgg59
  z131 := Try.sizeOf59
  v131 := Try.zeroValue59
  t182 := Try.underlying159
  a182 := Try.isAgg159
  z182 := Try.sizeOf159
  v182 := Try.zeroValue159
  t183 := Try.underlying160
  a183 := Try.isAgg160
  z183 := Try.sizeOf160
  v183 := Try.zeroValue160
  t218 := Try.underlying168
  a218 := Try.isAgg168
  z218 := Try.sizeOf168
  v218 := Try.zeroValue168
  t222 := Try.underlying172
  a222 := Try.isAgg172
  z222 := Try.sizeOf172
  v222 := Try.zeroValue172
  t228 := Try.underlying175
  a228 := Try.isAgg175
  z228 := Try.sizeOf175
  v228 := Try.zeroValue175
  t229 := Try.underlying176
  a229 := Try.isAgg176
  z229 := Try.sizeOf176
  v229 := Try.zeroValue176 }
theorem srt_reps {w : World} {base : Nat} {ok : Nat → Prop} {xs : List Int} {inner : List Value} (h : Reps ((Kd.int .i64).M w base ok) 1 xs inner) : inner = xs.map (Value.int .i64) := by
 have hl : inner.length = xs.length := by have := h.1; omega
 apply List.ext_getElem (by simpa using hl)
 intro j h1 h2
 have hj : j < xs.length := by omega
 have h3 : (inner.drop (j * 1)).take 1 = [Value.int .i64 xs[j]] := h.2 j xs[j] (List.getElem?_eq_getElem hj)
 have h4 := congrArg (fun l => l[0]?) h3
 simp only [Nat.mul_one, List.getElem?_take, List.getElem?_drop, Nat.zero_lt_one, if_true, Nat.add_zero, List.getElem?_cons_zero] at h4
 rw [List.getElem?_eq_getElem h1] at h4
 simpa using h4
theorem srt_ints {w : World} {base : Nat} {ok : Nat → Prop} (xs : List Int) : Reps ((Kd.int .i64).M w base ok) 1 xs (xs.map (Value.int .i64)) := by
 refine ⟨by rw [List.length_map]; exact (Nat.mul_one _).symm, fun j p hj => ?_⟩
 show ((xs.map (Value.int .i64)).drop (j * 1)).take 1 = [Value.int .i64 p]
 obtain ⟨hlt, rfl⟩ := List.getElem?_eq_some_iff.1 hj
 rw [Nat.mul_one, List.drop_eq_getElem_cons (by simpa using hlt)]
 simp
def slices_Sort_int_int.f (l0 : List Int) : Option (List Int) := if l0.length < 4611686018427387904 then some (l0.mergeSort fun x y => decide (x ≤ y)) else none
set_option maxHeartbeats 8000000 in
set_option maxRecDepth 100000 in
theorem slices_Sort_int_int.calls (P0_ : Nat → Prop) (u9000_ : Value) (l0 : List Int) (r : List Int) (w0 w : World) (hB : Below w0.heap.size w0 w) (ho0 : Kd.R (Kd.int .i64) 3 w w0.heap.size P0_ u9000_ l0) (h : slices_Sort_int_int.f l0 = some r) :
  Calls Try.prog 136 #[u9000_] w fun e w' => e = .returned (.tuple #[]) ∧ Kd.R (Kd.int .i64) 3 w' w0.heap.size (fun k_ => (P0_ k_ ∨ w.heap.size ≤ k_)) u9000_ r ∧ Below w0.heap.size w0 w' ∧ Kept w w' (fun k_ => P0_ k_) := by
 have hf : l0.length < 4611686018427387904 ∧ r = l0.mergeSort fun x y => decide (x ≤ y) := by
  unfold slices_Sort_int_int.f at h
  split at h
  · exact ⟨by assumption, (Option.some.inj h).symm⟩
  · cases h
 obtain ⟨hsz, rfl⟩ := hf
 clear h
 obtain ⟨hok, inner, ⟨hil, hcase⟩, hr⟩ := ho0
 have hin := srt_reps hr
 subst hin
 have hml : (l0.mergeSort fun x y => decide (x ≤ y)).length = l0.length := List.length_mergeSort _
 rcases hcase with ⟨rfl, hn⟩ | ⟨g, cap, cur, rfl, hbg, hg, hnc, hcm, hcs, htk⟩
 · have h0 : l0 = [] := List.length_eq_zero_iff.1 hn
   subst h0
   refine (Any.slices_Sort_int_none sort_lays none 0 w).mono ?_
   rintro e w' ⟨rfl, rfl⟩
   rw [show (([] : List Int).mergeSort fun x y => decide (x ≤ y)) = [] by simp]
   exact ⟨rfl, Kd.R_nil _ _ _ _ _, hB, Kept.refl _ _⟩
 · have hP : P0_ g := hok g rfl
   have htk1 : cur.toList.take l0.length = l0.map (Value.int .i64) := by rw [← htk, show (Kd.int .i64).sz = 1 from rfl, Nat.mul_one]
   have hgl : g < w.heap.size := (Array.getElem?_eq_some_iff.1 hg).1
   refine (Any.slices_Sort_int sort_lays g 0 cap l0 w (holds_of_blockI hg htk1) hgl hsz).mono ?_
   rintro e w' ⟨rfl, n, os, rfl⟩
   have hgr := grownBy_sortedI (w := w) (g := g) (n := n) (os := os) (l0.mergeSort fun x y => decide (x ≤ y)).toArray
   refine ⟨rfl, ⟨fun k hk => ?_, (l0.mergeSort fun x y => decide (x ≤ y)).map (Value.int .i64), ?_, srt_ints _⟩, hB.grown hgr hB.size (fun k hk => ?_), ⟨hgr.size, fun k hk hn => hgr.block k hk (fun he => hn ?_)⟩⟩
   · have : g = k := by simpa [Value.ownBlock] using hk
     exact .inl (this ▸ hP)
   · rw [hml]
     exact ownsRow_sortedI hml hbg hg hnc hcm hcs
   · injection hk with hk
     omega
   · injection he with he
     exact he ▸ hP

mutual
def impl_behind.l0 : Nat → Int → Int → List Int → List (S76) → Int → Int → Option (List Int)
 | 0, _, _, _, _, _, _ => none
 | k + 1, x1, x2, x7, x14, x15, x16 => if x16 < x15 then (if 0 ≤ x16 then (if x16 < (x14.length : Int) then (if ((rd_T76 x14 x16).f0) = x2 then (impl_behind.j1 k x1 x2 x7 x14 x15 x16 (((rd_T76 x14 x16).f1) == x1) ((rd_T76 x14 x16).f0) ((rd_T76 x14 x16).f1)) else (impl_behind.j1 k x1 x2 x7 x14 x15 x16 false ((rd_T76 x14 x16).f0) ((rd_T76 x14 x16).f1))) else (none)) else (none)) else ((slices_Sort_int_int.f x7).bind fun t388 => (some t388))
def impl_behind.j1 : Nat → Int → Int → List Int → List (S76) → Int → Int → Bool → Int → Int → Option (List Int)
 | 0, _, _, _, _, _, _, _, _, _ => none
 | k + 1, x1, x2, x7, x14, x15, x16, x29, x391000, x391001 => if x29 = true then (impl_behind.l0 k x1 x2 x7 x14 x15 (wrap64 (x16 + 1))) else ((slices_Contains_int_int.f k x7 x391000).bind fun t391 => (if t391 = true then (if x7.length < 17592186044416 then (impl_behind.l0 k x1 x2 (x7 ++ [x391001]) x14 x15 (wrap64 (x16 + 1))) else (none)) else (impl_behind.l0 k x1 x2 x7 x14 x15 (wrap64 (x16 + 1)))))
end
def impl_behind.f (k : Nat) (l0 : List Int) (a1 : Int) (a2 : Int) : Option (List Int) := (impl_spread.f k l0 a2).bind fun t385 => (impl_behind.l0 k a1 a2 (([a2] : List Int)) t385 (t385.length : Int) 0)
theorem impl_behind.mono_l : ∀ k, (∀ y0 y1 y2 y3 y4 y5, LeO (impl_behind.l0 k y0 y1 y2 y3 y4 y5) (impl_behind.l0 (k + 1) y0 y1 y2 y3 y4 y5)) ∧ (∀ y0 y1 y2 y3 y4 y5 y6 y7 y8, LeO (impl_behind.j1 k y0 y1 y2 y3 y4 y5 y6 y7 y8) (impl_behind.j1 (k + 1) y0 y1 y2 y3 y4 y5 y6 y7 y8))
 | 0 => ⟨fun _ _ _ _ _ _ r h => by simp [impl_behind.l0] at h, fun _ _ _ _ _ _ _ _ _ r h => by simp [impl_behind.j1] at h⟩
 | k + 1 => by
  obtain ⟨ih0, ih1⟩ := impl_behind.mono_l k
  refine ⟨?_, ?_⟩
  ·intro y0 y1 y2 y3 y4 y5
   unfold impl_behind.l0
   repeat' first
   | (with_reducible exact ih0 _ _ _ _ _ _)
   | (with_reducible exact ih1 _ _ _ _ _ _ _ _ _)
   | (with_reducible exact impl_spread.mono _ _ _)
   | (with_reducible exact slices_Contains_int_int.mono _ _ _)
   | (with_reducible exact LeO.refl _)
   | (with_reducible exact LeO.none _)
   | (with_reducible refine LeO.ite ?_ ?_)
   | (with_reducible refine LeO.bind ?_ (fun _ => ?_))
  ·intro y0 y1 y2 y3 y4 y5 y6 y7 y8
   unfold impl_behind.j1
   repeat' first
   | (with_reducible exact ih0 _ _ _ _ _ _)
   | (with_reducible exact ih1 _ _ _ _ _ _ _ _ _)
   | (with_reducible exact impl_spread.mono _ _ _)
   | (with_reducible exact slices_Contains_int_int.mono _ _ _)
   | (with_reducible exact LeO.refl _)
   | (with_reducible exact LeO.none _)
   | (with_reducible refine LeO.ite ?_ ?_)
   | (with_reducible refine LeO.bind ?_ (fun _ => ?_))
theorem impl_behind.mono : ∀ a0 a1 a2 k, LeO (impl_behind.f k a0 a1 a2) (impl_behind.f (k + 1) a0 a1 a2) := by
 intro a0 a1 a2 k
 obtain ⟨ih0, ih1⟩ := impl_behind.mono_l k
 unfold impl_behind.f
 repeat' first
   | (with_reducible exact ih0 _ _ _ _ _ _)
   | (with_reducible exact ih1 _ _ _ _ _ _ _ _ _)
   | (with_reducible exact impl_spread.mono _ _ _)
   | (with_reducible exact slices_Contains_int_int.mono _ _ _)
   | (with_reducible exact LeO.refl _)
   | (with_reducible exact LeO.none _)
   | (with_reducible refine LeO.ite ?_ ?_)
   | (with_reducible refine LeO.bind ?_ (fun _ => ?_))
set_option maxHeartbeats 8000000 in
set_option maxRecDepth 100000 in
theorem impl_behind.calls (k : Nat) (A0 : Option Addr) (c0 : Nat) (l0 : List Int) (a1 : Int) (a2 : Int) (r : List Int) (w : World) (hr0 : Kd.C (Kd.int .i64) w A0 l0.length l0) (hc0 : l0.length ≤ c0) (h : impl_behind.f k l0 a1 a2 = some r) :
  Calls Try.prog 99 #[.slice A0 l0.length c0, .int .i64 a1, .int .i64 a2] w fun e w' => ∃ v0_ : Value, e = .returned (v0_) ∧ Kd.R (Kd.int .i64) 3 w' w.heap.size (fun _ => True) v0_ r ∧ Below w.heap.size w w' := by
 have hu76 := Try.underlying76
 have HR0 := Aside0.mk hr0
 have HC0 := Aside0.mk hc0
 clear hr0 hc0
 have HB := Aside0.mk (Below.refl w.heap.size w)
 have H : ((impl_spread.f k l0 a2).bind fun t385 => (impl_behind.l0 k a1 a2 (([a2] : List Int)) t385 (t385.length : Int) 0)) = some r := h
 clear h
 obtain ⟨y382, hy382⟩ : ∃ y_ : List Int, y_ = (([a2] : List Int)) := ⟨_, rfl⟩
 replace H : ((impl_spread.f k l0 a2).bind fun t385 => (impl_behind.l0 k a1 a2 y382 t385 (t385.length : Int) 0)) = some r := by first | (rw [hy382]; with_reducible exact H) | (have H2_ := (Option.bind_some _ _).symm.trans H; rw [hy382]; with_reducible exact H2_) | (have H2_ := (Option.bind_some _ _).symm.trans H; with_reducible exact H2_) | with_reducible exact H | (rw [hy382]; exact H) | exact H
 have Ny382 := Aside0.mk hy382
 clear hy382
 replace H := Option.bind_eq_some_iff.mp H
 obtain ⟨t385, A40, H⟩ := H
 replace H : (impl_behind.l0 k a1 a2 y382 t385 (t385.length : Int) 0) = some r := H
 have A4 := Aside0.mk A40
 clear A40
 have H' := Aside0.mk H
 clear H
 go_enter Try.func99, Try.ntmps99
 go_wp2_with (first | ((with_reducible refine gate_dst (N := 11) rfl ?_); refine Kd.R_lit (Kd.int .i64) _ 3 ?hg (N := 11) ?hd (xs := ([a2] : List Int)) (inner := [.int .i64 a2]) (ok := fun _ => True) (okp := fun _ => True) ?hr ?hp (fun _ hk => hk) trivial (Below.refl _ _) (Nat.le_refl _) (by simp) ?_; (case hd => rfl); (case hg => rfl); (case hr => first | (go_simp; done) | (go_simp; rfl)); (case hp => exact (Reps.one (show Kd.M (Kd.int .i64) _ _ _ a2 [.int .i64 a2] from rfl) (Reps.none _ _))); intro v383 w5 ho6 hb hg_ hnew_; clear hg_ hnew_; (first | rw [← Ny382.out] at ho6 | (simp only [Int.reduceToNat] at ho6; rw [← Ny382.out] at ho6)); have HO384 := Aside0.mk (Kd.R_lower ho6 (below_size (hB HB))); replace HB := bst_ HB hb; clear hb ho6) | ((with_reducible refine gate_callee (f := 103) rfl ?_); refine goesL_ (some 14) rfl rfl Try.func103 (by kernel_rfl) rfl #[.slice A0 l0.length c0, .int .i64 a2] rfl tm_ ?_; (with_reducible refine (impl_spread.calls k _ _ l0 a2 t385 _ ?side1 ?side2 A4.out).mono ?_); (case side1 => exact ca (Kd.C_below HR0.out HB.out)); (case side2 => exact HC0.out); rintro e w7 ⟨v386, rfl, ho0, hb⟩; refine ⟨_, rfl, ?_⟩; have HO387 := Aside0.mk (Kd.R_lower ho0 (below_size (hB HB))); replace HO384 := rb_ HO384 hb; replace HB := bst_ HB hb; clear hb ho0; obtain ⟨Ao8, co8, eo8⟩ := Kd.R_slice HO387.out; subst eo8))
 go_loopg [7, 16] k (fun kq v7 v16 w' => ∃ (x7_1 : List Int) (x16_1 : Int), v16 = .int .i64 x16_1 ∧ Aside0 (impl_behind.l0 kq a1 a2 x7_1 t385 (t385.length : Int) x16_1 = some r) ∧ Aside0 (kq ≤ k) ∧ Aside0 (Kd.R (Kd.int .i64) 3 w' w.heap.size (fun _ => True) v7 x7_1) ∧ Aside0 (Kd.R k76 76 w' w.heap.size (fun _ => True) (.slice Ao8 t385.length co8) t385) ∧ Aside0 (Below w.heap.size w w'))
 case atStart => exact ⟨(y382), (0), (by first | rfl | (simp; done) | (simp [*]; done)), H', ⟨Nat.le_refl _⟩, ⟨ra HO384.out⟩, ⟨ra HO387.out⟩, ⟨hB HB⟩⟩
 case round =>
  clear H'
  obtain ⟨x7_1, x16_1, rfl, HA, HK1, HO_7, HO_14, HB⟩ := hrel
  cases gk with
  | zero => exact absurd HA.out (by simp [impl_behind.l0])
  | succ k1 =>
   have H := HA.out
   clear HA
   simp only [impl_behind.l0] at H
   by_cases c9 : x16_1 < (t385.length : Int)
   rotate_left
   ·rw [if_neg c9] at H
    have c9b0 : decide (x16_1 < (t385.length : Int)) = false := decide_eq_false c9
    clear c9
    replace H := Option.bind_eq_some_iff.mp H
    obtain ⟨t388, A270, H⟩ := H
    replace H : (some t388) = some r := H
    have A27 := Aside0.mk A270
    clear A270
    obtain rfl := Option.some.inj H
    obtain ⟨Ao28, co28, eo28⟩ := Kd.R_slice HO_7.out
    subst eo28
    go_wp2_with (first | ((with_reducible refine gate_callee (f := 136) rfl ?_); refine goesL_ (some 41) rfl rfl Try.func136 (by kernel_rfl) rfl #[.slice Ao28 x7_1.length co28] rfl tm_ ?_; (with_reducible refine (slices_Sort_int_int.calls (fun k_ => some k_ = (.slice Ao28 x7_1.length co28 : Value).ownBlock) (.slice Ao28 x7_1.length co28) x7_1 t388 w _ ?side1 ?side2 A27.out).mono ?_); (case side1 => repeat (first | (with_reducible first | exact HB.out | apply below_alloc | apply pw_below_drewN | apply below_drew1) | exact HB.out)); (case side2 => exact Kd.R_tight rfl HO_7.out); rintro e w29 ⟨rfl, hy0, hb, hkp⟩; refine ⟨_, rfl, ?_⟩; replace HO_14 := Aside0.mk (Kd.R_mono (ok' := fun k_ => True) (Kd.R_keptB ((Kd.R_apart' HO_14.out (Kd.R_typed HO_7.out) (by decide))) hkp (fun k_ hk_ hs_ => (hk_.2) hs_)) (fun k_ hk_ => trivial)); replace HO_7 := Aside0.mk (Kd.R_reok rfl hy0 (fun k_ e_ => HO_7.out.1 k_ e_)); replace HB := Aside0.mk (hb); clear hb))
    go_ret
    exact ⟨_, by first | rfl | (simp [errW_none, errW_some] <;> rfl) | (simp [*, errW_none, errW_some] <;> rfl), by (with_reducible repeat (first | apply Kd.R_alloc | apply Kd.R_drewN | apply Kd.R_drew)); exact HO_7.out, by repeat (first | (with_reducible first | exact HB.out | apply below_alloc | apply pw_below_drewN | apply below_drew1) | exact HB.out)⟩
   rw [if_pos c9] at H
   have c9b0 : decide (x16_1 < (t385.length : Int)) = true := decide_eq_true c9
   clear c9
   by_cases c10 : 0 ≤ x16_1
   rotate_left
   ·rw [if_neg c10] at H
    exact absurd H (by simp)
   rw [if_pos c10] at H
   have c10b0 : decide (0 ≤ x16_1) = true := decide_eq_true c10
   clear c10
   by_cases c11 : x16_1 < (t385.length : Int)
   rotate_left
   ·rw [if_neg c11] at H
    exact absurd H (by simp)
   rw [if_pos c11] at H
   have c11b0 : decide (x16_1 < (t385.length : Int)) = true := decide_eq_true c11
   clear c11
   have HC12 := Aside0.mk H
   clear H
   have p389 : 0 ≤ (x16_1 : Int) := of_decide_eq_true (by first | (with_reducible assumption) | assumption)
   have q389 : x16_1 < (t385.length : Int) := of_decide_eq_true (by first | (with_reducible assumption) | assumption)
   obtain ⟨ad389, e389, hx389_0, hx389_1⟩ := at_T76 (Kd.R_reads' HO_14.out).2.2 x16_1 p389 q389
   cases e389
   replace p389 := eq_true p389
   replace q389 := eq_true q389
   go_upto_region 5 with (first | ((with_reducible refine gate_dst (N := 9) rfl ?_); refine box_event ?hg (N := 9) ?hd (cs := #[.int .i64 0, .int .i64 0]) (t := 76) ?hr ?_; (case hd => rfl); (case hg => rfl); (case hr => first | (go_simp; done) | (go_simp; rfl)); intro gb390 hg w13 hbox hb; have BK390 := Aside0.mk (hbox); have GW390 := gw_ hg HB; have GE390 := gw_ hg HB; replace HO_7 := rb_ HO_7 hb; replace HO_14 := Aside0.mk (Kd.R_below (Kd.R_elderB (ra HO_14.out) gb390 (Nat.le_of_eq hg.symm)) hb); replace HB := bst_ HB hb; clear hb hbox hg; have hcz14_0 : w13.cell? ⟨gb390, 0, none⟩ = some (.int .i64 0) := bc_ BK390 0; have hcz14_1 : w13.cell? ⟨gb390, 1, none⟩ = some (.int .i64 0) := bc_ BK390 1; have hfz14_0 := blk_frozen BK390.out 0; have hfz14_1 := blk_frozen BK390.out 1))
   (try simp only [Act.put, List.setIfInBounds_toArray, List.set_cons_zero, List.set_cons_succ])
   go_cut [29] (fun v29 wc => ∃ (kq : Nat) (x29_11 : Bool), v29 = .bool x29_11 ∧ Aside0 (impl_behind.j1 kq a1 a2 x7_1 t385 (t385.length : Int) x16_1 x29_11 ((rd_T76 t385 x16_1).f0) ((rd_T76 t385 x16_1).f1) = some r) ∧ Aside0 (kq ≤ k1) ∧ Aside0 (Kd.R (Kd.int .i64) 3 wc w.heap.size (fun _ => True) u7 x7_1) ∧ Aside0 (Kd.R k76 76 wc w.heap.size (fun k_ => k_ ≠ gb390) (.slice (some ad389) t385.length co8) t385) ∧ Aside0 (wc.heap[gb390]? = some (.cells #[.int .i64 ((rd_T76 t385 x16_1).f0), .int .i64 ((rd_T76 t385 x16_1).f1)] 76 (0, 0))) ∧ Aside0 (Below w.heap.size w wc))
   case first =>
    have H := HC12.out
    clear HC12
    by_cases c15 : ((rd_T76 t385 x16_1).f0) = a2
    rotate_left
    ·rw [if_neg c15] at H
     have c15b0 : (((rd_T76 t385 x16_1).f0) == a2) = false := beq_eq_false_iff_ne.mpr c15
     have c15b1 : (((rd_T76 t385 x16_1).f0) != a2) = true := bne_iff_ne.mpr c15
     (first | rw [c15b0] | (simp only [i64_w, i32_w]; rw [c15b0]) | skip)
     have H' := Aside0.mk H
     clear H
     have hcz17_0 : w13.cell? ⟨gb390, 0, none⟩ = some (.int .i64 0) := bc_ BK390 0
     have hcz17_1 : w13.cell? ⟨gb390, 1, none⟩ = some (.int .i64 0) := bc_ BK390 1
     have hfz17_0 := blk_frozen BK390.out 0
     have hfz17_1 := blk_frozen BK390.out 1
     go_wp2
     go_meet
     case rel => exact ⟨_, (false), (by first | rfl | (simp; done) | (simp [*]; done)), H', ⟨by have := HK1.out; first | omega | exact Nat.le_refl _⟩, ⟨by (with_reducible repeat (first | apply Kd.R_alloc | apply Kd.R_drewN | apply Kd.R_drew)); exact Kd.R_mono (Kd.R_far (p := ⟨gb390, 1, none⟩) (Kd.R_far (p := ⟨gb390, 0, none⟩) (Kd.R_types HO_7.out BK390.out (by decide)) (fun _ hk => hk.2) (.int .i64 ((rd_T76 t385 x16_1).f0))) (fun _ hk => hk.2) (.int .i64 ((rd_T76 t385 x16_1).f1))) (fun _ hk => trivial)⟩, ⟨by (with_reducible repeat (first | apply Kd.R_alloc | apply Kd.R_drewN | apply Kd.R_drew)); exact Kd.R_mono (Kd.R_far (p := ⟨gb390, 1, none⟩) (Kd.R_far (p := ⟨gb390, 0, none⟩) (Kd.R_mono HO_14.out (fun k_ hk => (⟨hk, hk.2⟩ : _ ∧ k_ ≠ gb390))) (fun _ hk => hk.2) (.int .i64 ((rd_T76 t385 x16_1).f0))) (fun _ hk => hk.2) (.int .i64 ((rd_T76 t385 x16_1).f1))) (fun _ hk => hk.1.2)⟩, ⟨by (with_reducible repeat (first | refine blk_drewN ?_ _ | refine blk_drew ?_ | refine blk_alloc ?_ _)); refine blk_put (cs := #[.int .i64 ((rd_T76 t385 x16_1).f0), .int .i64 0]) ?_ 1 _ rfl; (with_reducible repeat (first | refine blk_drewN ?_ _ | refine blk_drew ?_ | refine blk_alloc ?_ _)); refine blk_put (cs := #[.int .i64 0, .int .i64 0]) ?_ 0 _ rfl; (with_reducible repeat (first | refine blk_drewN ?_ _ | refine blk_drew ?_ | refine blk_alloc ?_ _)); exact BK390.out⟩, ⟨hB HB⟩⟩
    rw [if_pos c15] at H
    have c15b0 : (((rd_T76 t385 x16_1).f0) == a2) = true := beq_iff_eq.mpr c15
    have c15b1 : (((rd_T76 t385 x16_1).f0) != a2) = false := bne_eq_false_iff_eq.mpr c15
    clear c15
    (first | rw [c15b0] | (simp only [i64_w, i32_w]; rw [c15b0]) | skip)
    have H' := Aside0.mk H
    clear H
    have hcz16_0 : w13.cell? ⟨gb390, 0, none⟩ = some (.int .i64 0) := bc_ BK390 0
    have hcz16_1 : w13.cell? ⟨gb390, 1, none⟩ = some (.int .i64 0) := bc_ BK390 1
    have hfz16_0 := blk_frozen BK390.out 0
    have hfz16_1 := blk_frozen BK390.out 1
    go_wp2
    go_meet
    case rel => exact ⟨_, ((((rd_T76 t385 x16_1).f1) == a1)), (by first | rfl | (simp; done) | (simp [*]; done)), H', ⟨by have := HK1.out; first | omega | exact Nat.le_refl _⟩, ⟨by (with_reducible repeat (first | apply Kd.R_alloc | apply Kd.R_drewN | apply Kd.R_drew)); exact Kd.R_mono (Kd.R_far (p := ⟨gb390, 1, none⟩) (Kd.R_far (p := ⟨gb390, 0, none⟩) (Kd.R_types HO_7.out BK390.out (by decide)) (fun _ hk => hk.2) (.int .i64 ((rd_T76 t385 x16_1).f0))) (fun _ hk => hk.2) (.int .i64 ((rd_T76 t385 x16_1).f1))) (fun _ hk => trivial)⟩, ⟨by (with_reducible repeat (first | apply Kd.R_alloc | apply Kd.R_drewN | apply Kd.R_drew)); exact Kd.R_mono (Kd.R_far (p := ⟨gb390, 1, none⟩) (Kd.R_far (p := ⟨gb390, 0, none⟩) (Kd.R_mono HO_14.out (fun k_ hk => (⟨hk, hk.2⟩ : _ ∧ k_ ≠ gb390))) (fun _ hk => hk.2) (.int .i64 ((rd_T76 t385 x16_1).f0))) (fun _ hk => hk.2) (.int .i64 ((rd_T76 t385 x16_1).f1))) (fun _ hk => hk.1.2)⟩, ⟨by (with_reducible repeat (first | refine blk_drewN ?_ _ | refine blk_drew ?_ | refine blk_alloc ?_ _)); refine blk_put (cs := #[.int .i64 ((rd_T76 t385 x16_1).f0), .int .i64 0]) ?_ 1 _ rfl; (with_reducible repeat (first | refine blk_drewN ?_ _ | refine blk_drew ?_ | refine blk_alloc ?_ _)); refine blk_put (cs := #[.int .i64 0, .int .i64 0]) ?_ 0 _ rfl; (with_reducible repeat (first | refine blk_drewN ?_ _ | refine blk_drew ?_ | refine blk_alloc ?_ _)); exact BK390.out⟩, ⟨hB HB⟩⟩
   case rest =>
    clear HC12
    try clear c9
    try clear c9b0
    try clear c10
    try clear c10b0
    try clear c11
    try clear c11b0
    try clear hcz14_0
    try clear hcz14_1
    try clear hfz14_0
    try clear hfz14_1
    try clear hx389_0
    try clear hx389_1
    try clear p389
    try clear q389
    obtain ⟨kq, x29_11, rfl, HA, HJ11, HO_7, HO_14, BK390, HB⟩ := hcut
    cases kq with
    | zero => exact absurd HA.out (by simp [impl_behind.j1])
    | succ kj11 =>
     have H := HA.out
     clear HA
     simp only [impl_behind.j1] at H
     by_cases c18 : x29_11 = true
     ·subst c18
      rw [if_pos rfl] at H
      have H' := Aside0.mk H
      clear H
      go_wp2
      go_roundg kj11
      case measure => have := HK1.out; have := HJ11.out; omega
      case rel => exact ⟨(x7_1), (wrap64 (x16_1 + 1)), (by first | rfl | (simp; done) | (simp [*]; done)), H', ⟨by have := HK1.out; have := HJ11.out; omega⟩, ⟨ra HO_7.out⟩, rm_ HO_14 (fun _ hk => trivial), ⟨hB HB⟩⟩
     replace c18 := Bool.eq_false_iff.mpr c18
     subst c18
     rw [if_neg (show ¬ (false = true) by decide)] at H
     replace H := Option.bind_eq_some_iff.mp H
     obtain ⟨t391, A190, H⟩ := H
     replace H : (if t391 = true then (if x7_1.length < 17592186044416 then (impl_behind.l0 kj11 a1 a2 (x7_1 ++ [((rd_T76 t385 x16_1).f1)]) t385 (t385.length : Int) (wrap64 (x16_1 + 1))) else (none)) else (impl_behind.l0 kj11 a1 a2 x7_1 t385 (t385.length : Int) (wrap64 (x16_1 + 1)))) = some r := H
     have A19 := Aside0.mk A190
     clear A190
     by_cases c20 : t391 = true
     rotate_left
     ·replace c20 := Bool.eq_false_iff.mpr c20
      subst c20
      rw [if_neg (show ¬ (false = true) by decide)] at H
      have H' := Aside0.mk H
      clear H
      have hcz25_0 : wc.cell? ⟨gb390, 0, none⟩ = some (.int .i64 ((rd_T76 t385 x16_1).f0)) := bc_ BK390 0
      have hcz25_1 : wc.cell? ⟨gb390, 1, none⟩ = some (.int .i64 ((rd_T76 t385 x16_1).f1)) := bc_ BK390 1
      have hfz25_0 := blk_frozen BK390.out 0
      have hfz25_1 := blk_frozen BK390.out 1
      obtain ⟨Ao26, co26, eo26⟩ := Kd.R_slice HO_7.out
      subst eo26
      go_wp2_with (first | ((with_reducible refine gate_callee (f := 97) rfl ?_); refine goesL_ (some 33) rfl rfl Try.func97 (by kernel_rfl) rfl #[.slice Ao26 x7_1.length co26, .int .i64 ((rd_T76 t385 x16_1).f0)] rfl tm_ ?_; (with_reducible refine (slices_Contains_int_int.calls kj11 _ _ x7_1 ((rd_T76 t385 x16_1).f0) false _ ?side1 ?side2 A19.out).mono ?_); (case side1 => exact ca (Kd.R_reads' HO_7.out).2.2); (case side2 => exact (Kd.R_reads' HO_7.out).2.1); rintro e w' ⟨rfl, ⟨nd, rfl⟩⟩; refine ⟨_, rfl, ?_⟩))
      go_roundg kj11
      case measure => have := HK1.out; have := HJ11.out; omega
      case rel => exact ⟨(x7_1), (wrap64 (x16_1 + 1)), (by first | rfl | (simp; done) | (simp [*]; done)), H', ⟨by have := HK1.out; have := HJ11.out; omega⟩, ⟨ra HO_7.out⟩, rm_ HO_14 (fun _ hk => trivial), ⟨hB HB⟩⟩
     subst c20
     rw [if_pos rfl] at H
     by_cases c21 : x7_1.length < 17592186044416
     rotate_left
     ·rw [if_neg c21] at H
      exact absurd H (by simp)
     rw [if_pos c21] at H
     have LMc21 := Aside0.mk c21
     clear c21
     obtain ⟨y392, hy392⟩ : ∃ y_ : List Int, y_ = (x7_1 ++ [((rd_T76 t385 x16_1).f1)]) := ⟨_, rfl⟩
     replace H : (impl_behind.l0 kj11 a1 a2 y392 t385 (t385.length : Int) (wrap64 (x16_1 + 1))) = some r := by first | (rw [hy392]; with_reducible exact H) | (have H2_ := (Option.bind_some _ _).symm.trans H; rw [hy392]; with_reducible exact H2_) | (have H2_ := (Option.bind_some _ _).symm.trans H; with_reducible exact H2_) | with_reducible exact H | (rw [hy392]; exact H) | exact H
     have Ny392 := Aside0.mk hy392
     clear hy392
     have H' := Aside0.mk H
     clear H
     have hcz22_0 : wc.cell? ⟨gb390, 0, none⟩ = some (.int .i64 ((rd_T76 t385 x16_1).f0)) := bc_ BK390 0
     have hcz22_1 : wc.cell? ⟨gb390, 1, none⟩ = some (.int .i64 ((rd_T76 t385 x16_1).f1)) := bc_ BK390 1
     have hfz22_0 := blk_frozen BK390.out 0
     have hfz22_1 := blk_frozen BK390.out 1
     obtain ⟨Ao23, co23, eo23⟩ := Kd.R_slice HO_7.out
     subst eo23
     go_wp2_with (first | ((with_reducible refine gate_callee (f := 97) rfl ?_); refine goesL_ (some 33) rfl rfl Try.func97 (by kernel_rfl) rfl #[.slice Ao23 x7_1.length co23, .int .i64 ((rd_T76 t385 x16_1).f0)] rfl tm_ ?_; (with_reducible refine (slices_Contains_int_int.calls kj11 _ _ x7_1 ((rd_T76 t385 x16_1).f0) true _ ?side1 ?side2 A19.out).mono ?_); (case side1 => exact ca (Kd.R_reads' HO_7.out).2.2); (case side2 => exact (Kd.R_reads' HO_7.out).2.1); rintro e w' ⟨rfl, ⟨nd, rfl⟩⟩; refine ⟨_, rfl, ?_⟩) | ((with_reducible refine gate_builtin (b := .append) (xs := #[.tmp 34, .tmp 37]) rfl ?_); at_builtin; refine Kd.R_append (Kd.int .i64) (w0 := w) w.heap.size rfl (.tmp 34) (.tmp 37) 22 3 (.int .i64 0) 8 rfl Try.underlying22 info3 rfl (by decide) (by omega) (.slice Ao23 x7_1.length co23) x7_1 ((rd_T76 t385 x16_1).f1) [.int .i64 ((rd_T76 t385 x16_1).f1)] (fun _ => True) (fun _ => False) rfl rfl ?aP (fun _ hk => hk.elim) ?aF ?aO ?aB ?aS ?aL ?_; (case aP => exact rfl); (case aB => exact (hB HB)); (case aF => exact (fun _ _ => trivial)); (case aO => exact (ra HO_7.out)); (case aS => exact (below_size (hB HB))); (case aL => have := LMc21.out; omega); intro v393 w24 ho hb hg hat; rw [← Ny392.out] at ho; have HO394 := Aside0.mk (ho); replace HO_14 := Aside0.mk (Kd.R_over' (ra HO_14.out) (Kd.R_typed (ra HO_7.out)) (by decide) hg); replace BK390 := Aside0.mk (blk_grown (g := gb390) (o := .cells #[.int .i64 ((rd_T76 t385 x16_1).f0), .int .i64 ((rd_T76 t385 x16_1).f1)] 76 (0, 0)) (ba BK390.out) hg (Kd.R_ne HO_7.out BK390.out (by decide))); replace HB := Aside0.mk (hb); clear HO_7; clear ho hb hg hat))
     go_roundg kj11
     case measure => have := HK1.out; have := HJ11.out; omega
     case rel => exact ⟨(y392), (wrap64 (x16_1 + 1)), (by first | rfl | (simp; done) | (simp [*]; done)), H', ⟨by have := HK1.out; have := HJ11.out; omega⟩, ⟨ra HO394.out⟩, rm_ HO_14 (fun _ hk => trivial), ⟨hB HB⟩⟩

-- NOT PRINTED: function 145 (slices_IndexFunc_int_int)

def contf_ren : Go.Shelf.Ren := ⟨fun | 6 => 145 | 8 => 127 | n => n, fun | 0 => 0 | 3 => 3 | 4 => 4 | 22 => 22 | 23 => 3 | 25 => 112 | n => n, fun n => n⟩
theorem contf_lays : Go.Proofs.SlLaysH.n8 Try.prog contf_ren := {
  mixed := by kernel_rfl
  f6 := ⟨"slices.IndexFunc[[]int,int]", by decide, Try.func145.trans (congrArg some (by kernel_rfl))⟩
  f8 := ⟨"slices.ContainsFunc[[]int,int]", by decide, Try.func127.trans (congrArg some (by kernel_rfl))⟩
  t0 := Try.underlying0
  a0 := Try.isAgg0
  z0 := Try.sizeOf0
  v0 := Try.zeroValue0
  t3 := Try.underlying3
  a3 := Try.isAgg3
  z3 := Try.sizeOf3
  v3 := Try.zeroValue3
  t4 := Try.underlying4
  a4 := Try.isAgg4
  z4 := Try.sizeOf4
  v4 := Try.zeroValue4
  t22 := Try.underlying22
  a22 := Try.isAgg22
  z22 := Try.sizeOf22
  v22 := Try.zeroValue22
  a23 := Try.isAgg3
  z23 := Try.sizeOf3
  t25 := Try.underlying112
  a25 := Try.isAgg112
  z25 := Try.sizeOf112
  v25 := Try.zeroValue112 }
def slices_ContainsFunc_int_int.f (l0 : List Int) (l1 : List Int) : Option (Bool) := if l0.length ≤ 9223372036854775806 ∧ l1.length ≤ 9223372036854775806 then some (l0.any fun x => l1.any fun y => decide (x = y)) else none
theorem contf_index (x : Int) : ∀ (t p : List Int), (p ++ t).length ≤ 9223372036854775806 → ∃ v, slices_Index_int_int.l0 (t.length + 1) (p ++ t) x ((p ++ t).length : Int) (p.length : Int) = some v ∧ (v ≥ 0 ↔ x ∈ t)
 | [], p, _ => ⟨-1, by simp [slices_Index_int_int.l0], by simp⟩
 | y :: t, p, hb => by
  have hl : p.length + (t.length + 1) ≤ 9223372036854775806 := by simpa using hb
  have e1 : (p.length : Int) < ((p ++ y :: t).length : Int) := by simp; omega
  have e2 : rd (p ++ y :: t) (p.length : Int) = y := by simp [rd]
  rw [List.length_cons, slices_Index_int_int.l0, if_pos e1, if_pos (by omega), if_pos e1, e2]
  by_cases h : x = y
  · exact ⟨(p.length : Int), by rw [if_pos h], ⟨fun _ => by simp [h], fun _ => by omega⟩⟩
  · obtain ⟨v, h1, h2⟩ := contf_index x t (p ++ [y]) (by simpa using hl)
    refine ⟨v, ?_, by rw [h2]; simp [h]⟩
    rw [if_neg h]
    have e3 : wrap64 ((p.length : Int) + 1) = ((p ++ [y]).length : Int) := by unfold wrap64; simp; omega
    rw [e3, show p ++ y :: t = (p ++ [y]) ++ t by simp]
    exact h1
theorem contf_has (l : List Int) (x : Int) (h : l.length ≤ 9223372036854775806) : ∃ k, slices_Contains_int_int.f k l x = some (l.any fun y => decide (x = y)) := by
 obtain ⟨v, h1, h2⟩ := contf_index x l [] h
 refine ⟨l.length + 1, ?_⟩
 unfold slices_Contains_int_int.f slices_Index_int_int.f
 have h3 : slices_Index_int_int.l0 (l.length + 1) l x (l.length : Int) 0 = some v := h1
 rw [h3, Option.bind_some]
 congr 1
 rw [Bool.eq_iff_iff]
 simp [h2]
set_option maxHeartbeats 8000000 in
set_option maxRecDepth 100000 in
theorem slices_ContainsFunc_int_int.pred (gB : Nat) (A1 : Option Addr) (c1 : Nat) (l1 : List Int) (w : World) (hr1 : Kd.C (Kd.int .i64) w A1 l1.length l1) (hc1 : l1.length ≤ c1) (hb1 : w.heap[gB]? = some (.cells #[.slice A1 l1.length c1] 22 (0, 0))) (hl : l1.length ≤ 9223372036854775806) :
  Go.Proofs.PredAt Try.prog 128 #[.pointer (some ⟨gB, 0, none⟩)] (Value.int .i64) (fun x => l1.any fun y => decide (x = y)) w := by
 intro W x hb
 show Calls Try.prog 128 #[.int .i64 x, .pointer (some ⟨gB, 0, none⟩)] W _
 have BK := Aside0.mk (blk_below hb1 hb)
 have hcz : W.cell? ⟨gB, 0, none⟩ = some (.slice A1 l1.length c1) := bc_ BK 0
 have HR1 := Aside0.mk (Kd.C_below hr1 hb)
 have HC1 := Aside0.mk hc1
 clear hr1 hc1 hb1 hb BK
 obtain ⟨k, hk⟩ := contf_has l1 x hl
 have A3 := Aside0.mk hk
 clear hk
 generalize hrr : (l1.any fun y => decide (x = y)) = r at A3
 have HRR := Aside0.mk hrr
 clear hrr
 go_enter Try.func128, Try.ntmps128
 go_wp2_with (first | ((with_reducible refine gate_callee (f := 97) rfl ?_); refine goesL_ (some 6) rfl rfl Try.func97 (by kernel_rfl) rfl #[.slice A1 l1.length c1, .int .i64 x] rfl tm_ ?_; (with_reducible refine (slices_Contains_int_int.calls k _ _ l1 x r _ ?side1 ?side2 A3.out).mono ?_); (case side1 => exact ca HR1.out); (case side2 => exact HC1.out); rintro e w' ⟨rfl, ⟨nd, rfl⟩⟩; refine ⟨_, rfl, ?_⟩))
 all_goals
  go_ret
  exact And.imp_right Drawn0.out ⟨by first | (rw [← HRR.out]; rfl) | (simp [HRR.out]; done), by repeat (first | exact Drawn0.refl _ | apply Drawn0.step)⟩
set_option maxHeartbeats 8000000 in
theorem slices_ContainsFunc_int_int.calls (A0 : Option Addr) (c0 : Nat) (l0 : List Int) (gB : Nat) (A1 : Option Addr) (c1 : Nat) (l1 : List Int) (r : Bool) (base : Nat) (ok : Nat → Prop) (w : World) (hr0 : Kd.R (Kd.int .i64) 3 w base ok (.slice A0 l0.length c0) l0) (hr1 : Kd.C (Kd.int .i64) w A1 l1.length l1) (hc1 : l1.length ≤ c1) (hb1 : w.heap[gB]? = some (.cells #[.slice A1 l1.length c1] 22 (0, 0))) (h : slices_ContainsFunc_int_int.f l0 l1 = some r) :
  Calls Try.prog 127 #[.slice A0 l0.length c0, .func (.func 128) #[] #[.pointer (some ⟨gB, 0, none⟩)]] w fun e w' => e = .returned (.bool r) ∧ Drawn0 w w' := by
 have hf : (l0.length ≤ 9223372036854775806 ∧ l1.length ≤ 9223372036854775806) ∧ r = l0.any fun x => l1.any fun y => decide (x = y) := by
  unfold slices_ContainsFunc_int_int.f at h
  split at h
  · exact ⟨by assumption, (Option.some.inj h).symm⟩
  · cases h
 obtain ⟨⟨h0, h1⟩, rfl⟩ := hf
 have hcell := (Kd.R_reads' hr0).2.2
 obtain ⟨hok, inner, ⟨hil, hcase⟩, hr⟩ := hr0
 rcases hcase with ⟨he, hn⟩ | ⟨g, cap, cur, he, hbg, hg, hnc, hcm, hcs, htk⟩
 · have e0 : l0 = [] := List.length_eq_zero_iff.1 hn
   subst e0
   refine (AnyE.slices_ContainsFunc_empty contf_lays A0 c0 _ w).mono ?_
   rintro e w' ⟨rfl, rfl⟩
   exact ⟨rfl, Drawn0.refl _⟩
 · injection he with hA _ hC
   subst hA; subst hC
   have eg : ∀ args w, (callFunc 128 args).run Try.prog w = .ok (.enter 128 args) w := enters_of Try.func128 (by kernel_rfl) rfl
   refine (AnyE.slices_ContainsFunc contf_lays (Value.int .i64) _ 128 _ eg g 0 l0.length c0 l0 w (slices_ContainsFunc_int_int.pred gB A1 c1 l1 w hr1 hc1 hb1 h1) (Nat.le_refl _) (by omega) (fun j hj => ?_)).mono ?_
   · obtain ⟨ad, ha, hv⟩ := Kd.at_int hcell (j : Int) (by omega) (by omega)
     injection ha with ha
     subst ha
     have e1 : l0[j]! = rd l0 (j : Int) := by simp [rd, hj]
     rw [e1]
     by_cases hj0 : j = 0
     · subst hj0; simpa [Addr.add] using hv
     · simpa [Addr.add, hj0] using hv
   · rintro e w' ⟨rfl, q, rfl⟩
     exact ⟨by rw [List.take_length], ⟨⟨q, rfl⟩⟩⟩

def impl_wanted.l0 : Nat → List Int → List Int → List (S76) → List (S76) → Int → Int → Option ((List (S76)))
 | 0, _, _, _, _, _, _ => none
 | k + 1, x0, x2, x7, x12, x13, x14 => if x14 < x13 then (if 0 ≤ x14 then (if x14 < (x12.length : Int) then ((impl_behind.f k x0 ((rd_T76 x12 x14).f0) ((rd_T76 x12 x14).f1)).bind fun t400 => ((slices_ContainsFunc_int_int.f t400 x2).bind fun t403 => (if t403 = true then (if x7.length < 8796093022208 then (impl_wanted.l0 k x0 x2 (x7 ++ [(⟨(rd_T76 x12 x14).f0, (rd_T76 x12 x14).f1⟩ : S76)]) x12 x13 (wrap64 (x14 + 1))) else (none)) else (impl_wanted.l0 k x0 x2 x7 x12 x13 (wrap64 (x14 + 1)))))) else (none)) else (none)) else (some x7)
def impl_wanted.f (k : Nat) (l0 : List Int) (a1 : Int) (l2 : List Int) : Option ((List (S76))) := (impl_spread.f k l0 a1).bind fun t395 => (impl_wanted.l0 k l0 l2 ([] : List (S76)) t395 (t395.length : Int) 0)
theorem impl_wanted.mono_l : ∀ k, (∀ y0 y1 y2 y3 y4 y5, LeO (impl_wanted.l0 k y0 y1 y2 y3 y4 y5) (impl_wanted.l0 (k + 1) y0 y1 y2 y3 y4 y5))
 | 0 => fun _ _ _ _ _ _ r h => by simp [impl_wanted.l0] at h
 | k + 1 => by
  have ih0 := impl_wanted.mono_l k
  ·intro y0 y1 y2 y3 y4 y5
   unfold impl_wanted.l0
   repeat' first
   | (with_reducible exact ih0 _ _ _ _ _ _)
   | (with_reducible exact impl_behind.mono _ _ _ _)
   | (with_reducible exact impl_spread.mono _ _ _)
   | (with_reducible exact LeO.refl _)
   | (with_reducible exact LeO.none _)
   | (with_reducible refine LeO.ite ?_ ?_)
   | (with_reducible refine LeO.bind ?_ (fun _ => ?_))
theorem impl_wanted.mono : ∀ a0 a1 a2 k, LeO (impl_wanted.f k a0 a1 a2) (impl_wanted.f (k + 1) a0 a1 a2) := by
 intro a0 a1 a2 k
 have ih0 := impl_wanted.mono_l k
 unfold impl_wanted.f
 repeat' first
   | (with_reducible exact ih0 _ _ _ _ _ _)
   | (with_reducible exact impl_behind.mono _ _ _ _)
   | (with_reducible exact impl_spread.mono _ _ _)
   | (with_reducible exact LeO.refl _)
   | (with_reducible exact LeO.none _)
   | (with_reducible refine LeO.ite ?_ ?_)
   | (with_reducible refine LeO.bind ?_ (fun _ => ?_))
set_option maxHeartbeats 8000000 in
set_option maxRecDepth 100000 in
theorem impl_wanted.calls (k : Nat) (A0 : Option Addr) (c0 : Nat) (l0 : List Int) (a1 : Int) (A2 : Option Addr) (c2 : Nat) (l2 : List Int) (r : List (S76)) (w : World) (hr0 : Kd.C (Kd.int .i64) w A0 l0.length l0) (hc0 : l0.length ≤ c0) (hr2 : Kd.C (Kd.int .i64) w A2 l2.length l2) (hc2 : l2.length ≤ c2) (h : impl_wanted.f k l0 a1 l2 = some r) :
  Calls Try.prog 79 #[.slice A0 l0.length c0, .int .i64 a1, .slice A2 l2.length c2] w fun e w' => ∃ v0_ : Value, e = .returned (v0_) ∧ Kd.R k76 76 w' w.heap.size (fun _ => True) v0_ r ∧ Below w.heap.size w w' := by
 have hu76 := Try.underlying76
 have HR0 := Aside0.mk hr0
 have HC0 := Aside0.mk hc0
 clear hr0 hc0
 have HR2 := Aside0.mk hr2
 have HC2 := Aside0.mk hc2
 clear hr2 hc2
 have HB := Aside0.mk (Below.refl w.heap.size w)
 have H : ((impl_spread.f k l0 a1).bind fun t395 => (impl_wanted.l0 k l0 l2 ([] : List (S76)) t395 (t395.length : Int) 0)) = some r := h
 clear h
 replace H := Option.bind_eq_some_iff.mp H
 obtain ⟨t395, A40, H⟩ := H
 replace H : (impl_wanted.l0 k l0 l2 ([] : List (S76)) t395 (t395.length : Int) 0) = some r := H
 have A4 := Aside0.mk A40
 clear A40
 have H' := Aside0.mk H
 clear H
 go_enter Try.func79, Try.ntmps79
 go_wp2_with (first | ((with_reducible refine gate_dst (N := 5) rfl ?_); refine box_event ?hg (N := 5) ?hd (cs := #[.slice A2 l2.length c2]) (t := 22) ?hr ?_; (case hd => rfl); (case hg => rfl); (case hr => first | (go_simp; done) | (go_simp; rfl)); intro gbB hg wB hbox hb; have BKB := Aside0.mk (hbox); replace HB := bst_ HB hb; clear hb hbox hg) | ((with_reducible refine gate_callee (f := 103) rfl ?_); refine goesL_ (some 12) rfl rfl Try.func103 (by kernel_rfl) rfl #[.slice A0 l0.length c0, .int .i64 a1] rfl tm_ ?_; (with_reducible refine (impl_spread.calls k _ _ l0 a1 t395 _ ?side1 ?side2 A4.out).mono ?_); (case side1 => exact Kd.C_below HR0.out (hB HB)); (case side2 => exact HC0.out); rintro e w5 ⟨v396, rfl, ho0, hb⟩; refine ⟨_, rfl, ?_⟩; have HO397 := Aside0.mk (Kd.R_lower ho0 (below_size (hB HB))); replace BKB := bb_ BKB hb; replace HB := bst_ HB hb; clear hb ho0; obtain ⟨Ao6, co6, eo6⟩ := Kd.R_slice HO397.out; subst eo6))
 go_loopg [7, 14] k (fun kq v7 v14 w' => ∃ (x7_1 : List (S76)) (x14_1 : Int), v14 = .int .i64 x14_1 ∧ Aside0 (impl_wanted.l0 kq l0 l2 x7_1 t395 (t395.length : Int) x14_1 = some r) ∧ Aside0 (kq ≤ k) ∧ Aside0 (Kd.R k76 76 w' w.heap.size (fun k_ => no_ (.slice Ao6 t395.length co6) k_) v7 x7_1) ∧ Aside0 (Kd.R k76 76 w' w.heap.size (fun k_ => no_ v7 k_) (.slice Ao6 t395.length co6) t395) ∧ Aside0 (Below w.heap.size w w') ∧ Aside0 (w'.heap[gbB]? = some (.cells #[.slice A2 l2.length c2] 22 (0, 0))))
 case atStart => exact ⟨(([] : List (S76))), (0), (by first | rfl | (simp; done) | (simp [*]; done)), H', ⟨Nat.le_refl _⟩, ⟨by first | exact Kd.R_nil _ _ _ _ _ | exact Kd.N_nil _ _ _ _ _ | exact Kd.V_nil _ _ _ _ _ | exact Kd.Q_nil _ _ _ _ _ | exact Kd.S_nil _ _ _ _ _⟩, ⟨by (with_reducible repeat (first | apply Kd.R_alloc | apply Kd.R_drewN | apply Kd.R_drew)); exact Kd.R_mono HO397.out (fun _ hk => (by simp [Value.ownBlock]))⟩, ⟨hB HB⟩, ⟨ba BKB.out⟩⟩
 case round =>
  clear H'
  obtain ⟨x7_1, x14_1, rfl, HA, HK1, HO_7, HO_12, HB, BKB⟩ := hrel
  cases gk with
  | zero => exact absurd HA.out (by simp [impl_wanted.l0])
  | succ k1 =>
   have H := HA.out
   clear HA
   simp only [impl_wanted.l0] at H
   by_cases c7 : x14_1 < (t395.length : Int)
   rotate_left
   ·rw [if_neg c7] at H
    have c7b0 : decide (x14_1 < (t395.length : Int)) = false := decide_eq_false c7
    clear c7
    obtain rfl := Option.some.inj H
    go_wp2
    go_ret
    exact ⟨_, by first | rfl | (simp [errW_none, errW_some] <;> rfl) | (simp [*, errW_none, errW_some] <;> rfl), by (with_reducible repeat (first | apply Kd.R_alloc | apply Kd.R_drewN | apply Kd.R_drew)); exact Kd.R_mono HO_7.out (fun _ hk => trivial), by repeat (first | (with_reducible first | exact HB.out | apply below_alloc | apply pw_below_drewN | apply below_drew1) | exact HB.out)⟩
   rw [if_pos c7] at H
   have c7b0 : decide (x14_1 < (t395.length : Int)) = true := decide_eq_true c7
   clear c7
   by_cases c8 : 0 ≤ x14_1
   rotate_left
   ·rw [if_neg c8] at H
    exact absurd H (by simp)
   rw [if_pos c8] at H
   have c8b0 : decide (0 ≤ x14_1) = true := decide_eq_true c8
   clear c8
   by_cases c9 : x14_1 < (t395.length : Int)
   rotate_left
   ·rw [if_neg c9] at H
    exact absurd H (by simp)
   rw [if_pos c9] at H
   have c9b0 : decide (x14_1 < (t395.length : Int)) = true := decide_eq_true c9
   clear c9
   replace H := Option.bind_eq_some_iff.mp H
   obtain ⟨t400, A100, H⟩ := H
   replace H : ((slices_ContainsFunc_int_int.f t400 l2).bind fun t403 => (if t403 = true then (if x7_1.length < 8796093022208 then (impl_wanted.l0 k1 l0 l2 (x7_1 ++ [(⟨(rd_T76 t395 x14_1).f0, (rd_T76 t395 x14_1).f1⟩ : S76)]) t395 (t395.length : Int) (wrap64 (x14_1 + 1))) else (none)) else (impl_wanted.l0 k1 l0 l2 x7_1 t395 (t395.length : Int) (wrap64 (x14_1 + 1))))) = some r := H
   have A10 := Aside0.mk A100
   clear A100
   replace H := Option.bind_eq_some_iff.mp H
   obtain ⟨t403, A110, H⟩ := H
   replace H : (if t403 = true then (if x7_1.length < 8796093022208 then (impl_wanted.l0 k1 l0 l2 (x7_1 ++ [(⟨(rd_T76 t395 x14_1).f0, (rd_T76 t395 x14_1).f1⟩ : S76)]) t395 (t395.length : Int) (wrap64 (x14_1 + 1))) else (none)) else (impl_wanted.l0 k1 l0 l2 x7_1 t395 (t395.length : Int) (wrap64 (x14_1 + 1)))) = some r := H
   have A11 := Aside0.mk A110
   clear A110
   by_cases c12 : t403 = true
   rotate_left
   ·replace c12 := Bool.eq_false_iff.mpr c12
    subst c12
    rw [if_neg (show ¬ (false = true) by decide)] at H
    have H' := Aside0.mk H
    clear H
    have p398 : 0 ≤ (x14_1 : Int) := of_decide_eq_true (by first | (with_reducible assumption) | assumption)
    have q398 : x14_1 < (t395.length : Int) := of_decide_eq_true (by first | (with_reducible assumption) | assumption)
    obtain ⟨ad398, e398, hx398_0, hx398_1⟩ := at_T76 (Kd.R_reads' HO_12.out).2.2 x14_1 p398 q398
    cases e398
    replace p398 := eq_true p398
    replace q398 := eq_true q398
    go_wp2_with (first | ((with_reducible refine gate_dst (N := 9) rfl ?_); refine box_event ?hg (N := 9) ?hd (cs := #[.int .i64 0, .int .i64 0]) (t := 76) ?hr ?_; (case hd => rfl); (case hg => rfl); (case hr => first | (go_simp; done) | (go_simp; rfl)); intro gb399 hg w20 hbox hb; have NLB := nl_ hg BKB; have NGB := ng_ hg BKB; replace BKB := bb_ BKB hb; have BK399 := Aside0.mk (hbox); have GW399 := gw_ hg HB; have GE399 := gw_ hg HB; replace HO_7 := Aside0.mk (Kd.R_below (Kd.R_elderB (ra HO_7.out) gb399 (Nat.le_of_eq hg.symm)) hb); replace HO_12 := Aside0.mk (Kd.R_below (Kd.R_elderB (ra HO_12.out) gb399 (Nat.le_of_eq hg.symm)) hb); replace HB := bst_ HB hb; clear hb hbox hg; have hcz21_0 : w20.cell? ⟨gb399, 0, none⟩ = some (.int .i64 0) := bc_ BK399 0; have hcz21_1 : w20.cell? ⟨gb399, 1, none⟩ = some (.int .i64 0) := bc_ BK399 1; have hfz21_0 := blk_frozen BK399.out 0; have hfz21_1 := blk_frozen BK399.out 1) | ((with_reducible refine gate_callee (f := 99) rfl ?_); refine goesL_ (some 23) rfl rfl Try.func99 (by kernel_rfl) rfl #[.slice A0 l0.length c0, .int .i64 ((rd_T76 t395 x14_1).f0), .int .i64 ((rd_T76 t395 x14_1).f1)] rfl tm_ ?_; (with_reducible refine (impl_behind.calls k1 _ _ l0 ((rd_T76 t395 x14_1).f0) ((rd_T76 t395 x14_1).f1) t400 _ ?side1 ?side2 A10.out).mono ?_); (case side1 => exact Kd.C_below HR0.out (hB HB)); (case side2 => exact HC0.out); rintro e w22 ⟨v401, rfl, ho0, hb⟩; refine ⟨_, rfl, ?_⟩; have HO402 := Aside0.mk (Kd.R_lower ho0 (below_size (hB HB))); replace HO_7 := Aside0.mk (Kd.R_below (ra (Kd.R_mono (Kd.R_far (p := ⟨gb399, 1, none⟩) (Kd.R_far (p := ⟨gb399, 0, none⟩) (Kd.R_mono HO_7.out (fun k_ hk => (⟨hk, hk.2⟩ : _ ∧ k_ ≠ gb399))) (fun _ hk => hk.2) (.int .i64 ((rd_T76 t395 x14_1).f0))) (fun _ hk => hk.2) (.int .i64 ((rd_T76 t395 x14_1).f1))) (fun _ h_ => h_.1))) hb); replace HO_12 := Aside0.mk (Kd.R_below (ra (Kd.R_mono (Kd.R_far (p := ⟨gb399, 1, none⟩) (Kd.R_far (p := ⟨gb399, 0, none⟩) (Kd.R_mono HO_12.out (fun k_ hk => (⟨hk, hk.2⟩ : _ ∧ k_ ≠ gb399))) (fun _ hk => hk.2) (.int .i64 ((rd_T76 t395 x14_1).f0))) (fun _ hk => hk.2) (.int .i64 ((rd_T76 t395 x14_1).f1))) (fun _ h_ => h_.1))) hb); replace BKB := Aside0.mk (blk_below (g := gbB) (o := .cells #[.slice A2 l2.length c2] 22 (0, 0)) (bx BKB) hb); replace BK399 := Aside0.mk (blk_below (g := gb399) (o := .cells #[.int .i64 ((rd_T76 t395 x14_1).f0), .int .i64 ((rd_T76 t395 x14_1).f1)] 76 (0, 0)) (by (with_reducible repeat (first | refine blk_drewN ?_ _ | refine blk_drew ?_ | refine blk_alloc ?_ _)); refine blk_put (cs := #[.int .i64 ((rd_T76 t395 x14_1).f0), .int .i64 0]) ?_ 1 _ rfl; (with_reducible repeat (first | refine blk_drewN ?_ _ | refine blk_drew ?_ | refine blk_alloc ?_ _)); refine blk_put (cs := #[.int .i64 0, .int .i64 0]) ?_ 0 _ rfl; (with_reducible repeat (first | refine blk_drewN ?_ _ | refine blk_drew ?_ | refine blk_alloc ?_ _)); exact BK399.out) hb); replace HB := bst_ HB hb; clear hb ho0; obtain ⟨Ao23, co23, eo23⟩ := Kd.R_slice HO402.out; subst eo23) | ((with_reducible refine gate_callee (f := 127) rfl ?_); refine goesL_ (some 25) rfl rfl Try.func127 (by kernel_rfl) rfl #[.slice Ao23 t400.length co23, .func (.func 128) #[] #[.pointer (some ⟨gbB, 0, none⟩)]] rfl tm_ ?_; (with_reducible refine (slices_ContainsFunc_int_int.calls _ _ t400 gbB _ _ l2 false _ _ _ (ra HO402.out) ?side3 ?side4 (ba BKB.out) A11.out).mono ?_); (case side3 => exact ca (Kd.C_below HR2.out HB.out)); (case side4 => exact HC2.out); rintro e w' ⟨rfl, ⟨nd, rfl⟩⟩; refine ⟨_, rfl, ?_⟩))
    go_roundg k1
    case measure => have := HK1.out; omega
    case rel => exact ⟨(x7_1), (wrap64 (x14_1 + 1)), (by first | rfl | (simp; done) | (simp [*]; done)), H', ⟨by have := HK1.out; omega⟩, rm_ HO_7 (fun _ hk => hk.1), rm_ HO_12 (fun _ hk => hk.1), ⟨hB HB⟩, ⟨ba BKB.out⟩⟩
   subst c12
   rw [if_pos rfl] at H
   by_cases c13 : x7_1.length < 8796093022208
   rotate_left
   ·rw [if_neg c13] at H
    exact absurd H (by simp)
   rw [if_pos c13] at H
   have LMc13 := Aside0.mk c13
   clear c13
   obtain ⟨y404, hy404⟩ : ∃ y_ : List (S76), y_ = (x7_1 ++ [(⟨(rd_T76 t395 x14_1).f0, (rd_T76 t395 x14_1).f1⟩ : S76)]) := ⟨_, rfl⟩
   replace H : (impl_wanted.l0 k1 l0 l2 y404 t395 (t395.length : Int) (wrap64 (x14_1 + 1))) = some r := by first | (rw [hy404]; with_reducible exact H) | (have H2_ := (Option.bind_some _ _).symm.trans H; rw [hy404]; with_reducible exact H2_) | (have H2_ := (Option.bind_some _ _).symm.trans H; with_reducible exact H2_) | with_reducible exact H | (rw [hy404]; exact H) | exact H
   have Ny404 := Aside0.mk hy404
   clear hy404
   have H' := Aside0.mk H
   clear H
   have p398 : 0 ≤ (x14_1 : Int) := of_decide_eq_true (by first | (with_reducible assumption) | assumption)
   have q398 : x14_1 < (t395.length : Int) := of_decide_eq_true (by first | (with_reducible assumption) | assumption)
   obtain ⟨ad398, e398, hx398_0, hx398_1⟩ := at_T76 (Kd.R_reads' HO_12.out).2.2 x14_1 p398 q398
   cases e398
   replace p398 := eq_true p398
   replace q398 := eq_true q398
   go_wp2_with (first | ((with_reducible refine gate_dst (N := 9) rfl ?_); refine box_event ?hg (N := 9) ?hd (cs := #[.int .i64 0, .int .i64 0]) (t := 76) ?hr ?_; (case hd => rfl); (case hg => rfl); (case hr => first | (go_simp; done) | (go_simp; rfl)); intro gb399 hg w14 hbox hb; have NLB := nl_ hg BKB; have NGB := ng_ hg BKB; replace BKB := bb_ BKB hb; have BK399 := Aside0.mk (hbox); have GW399 := gw_ hg HB; have GE399 := gw_ hg HB; replace HO_7 := Aside0.mk (Kd.R_below (Kd.R_elderB (ra HO_7.out) gb399 (Nat.le_of_eq hg.symm)) hb); replace HO_12 := Aside0.mk (Kd.R_below (Kd.R_elderB (ra HO_12.out) gb399 (Nat.le_of_eq hg.symm)) hb); replace HB := bst_ HB hb; clear hb hbox hg; have hcz15_0 : w14.cell? ⟨gb399, 0, none⟩ = some (.int .i64 0) := bc_ BK399 0; have hcz15_1 : w14.cell? ⟨gb399, 1, none⟩ = some (.int .i64 0) := bc_ BK399 1; have hfz15_0 := blk_frozen BK399.out 0; have hfz15_1 := blk_frozen BK399.out 1) | ((with_reducible refine gate_callee (f := 99) rfl ?_); refine goesL_ (some 23) rfl rfl Try.func99 (by kernel_rfl) rfl #[.slice A0 l0.length c0, .int .i64 ((rd_T76 t395 x14_1).f0), .int .i64 ((rd_T76 t395 x14_1).f1)] rfl tm_ ?_; (with_reducible refine (impl_behind.calls k1 _ _ l0 ((rd_T76 t395 x14_1).f0) ((rd_T76 t395 x14_1).f1) t400 _ ?side1 ?side2 A10.out).mono ?_); (case side1 => exact Kd.C_below HR0.out (hB HB)); (case side2 => exact HC0.out); rintro e w16 ⟨v401, rfl, ho0, hb⟩; refine ⟨_, rfl, ?_⟩; have HO402 := Aside0.mk (Kd.R_lower ho0 (below_size (hB HB))); replace HO_7 := Aside0.mk (Kd.R_below (ra (Kd.R_mono (Kd.R_far (p := ⟨gb399, 1, none⟩) (Kd.R_far (p := ⟨gb399, 0, none⟩) (Kd.R_mono HO_7.out (fun k_ hk => (⟨hk, hk.2⟩ : _ ∧ k_ ≠ gb399))) (fun _ hk => hk.2) (.int .i64 ((rd_T76 t395 x14_1).f0))) (fun _ hk => hk.2) (.int .i64 ((rd_T76 t395 x14_1).f1))) (fun _ h_ => h_.1))) hb); replace HO_12 := Aside0.mk (Kd.R_below (ra (Kd.R_mono (Kd.R_far (p := ⟨gb399, 1, none⟩) (Kd.R_far (p := ⟨gb399, 0, none⟩) (Kd.R_mono HO_12.out (fun k_ hk => (⟨hk, hk.2⟩ : _ ∧ k_ ≠ gb399))) (fun _ hk => hk.2) (.int .i64 ((rd_T76 t395 x14_1).f0))) (fun _ hk => hk.2) (.int .i64 ((rd_T76 t395 x14_1).f1))) (fun _ h_ => h_.1))) hb); replace BKB := Aside0.mk (blk_below (g := gbB) (o := .cells #[.slice A2 l2.length c2] 22 (0, 0)) (bx BKB) hb); replace BK399 := Aside0.mk (blk_below (g := gb399) (o := .cells #[.int .i64 ((rd_T76 t395 x14_1).f0), .int .i64 ((rd_T76 t395 x14_1).f1)] 76 (0, 0)) (by (with_reducible repeat (first | refine blk_drewN ?_ _ | refine blk_drew ?_ | refine blk_alloc ?_ _)); refine blk_put (cs := #[.int .i64 ((rd_T76 t395 x14_1).f0), .int .i64 0]) ?_ 1 _ rfl; (with_reducible repeat (first | refine blk_drewN ?_ _ | refine blk_drew ?_ | refine blk_alloc ?_ _)); refine blk_put (cs := #[.int .i64 0, .int .i64 0]) ?_ 0 _ rfl; (with_reducible repeat (first | refine blk_drewN ?_ _ | refine blk_drew ?_ | refine blk_alloc ?_ _)); exact BK399.out) hb); replace HB := bst_ HB hb; clear hb ho0; obtain ⟨Ao17, co17, eo17⟩ := Kd.R_slice HO402.out; subst eo17) | ((with_reducible refine gate_callee (f := 127) rfl ?_); refine goesL_ (some 25) rfl rfl Try.func127 (by kernel_rfl) rfl #[.slice Ao17 t400.length co17, .func (.func 128) #[] #[.pointer (some ⟨gbB, 0, none⟩)]] rfl tm_ ?_; (with_reducible refine (slices_ContainsFunc_int_int.calls _ _ t400 gbB _ _ l2 true _ _ _ (ra HO402.out) ?side3 ?side4 (ba BKB.out) A11.out).mono ?_); (case side3 => exact ca (Kd.C_below HR2.out HB.out)); (case side4 => exact HC2.out); rintro e w' ⟨rfl, ⟨nd, rfl⟩⟩; refine ⟨_, rfl, ?_⟩; have hcz18_0 : w16.cell? ⟨gb399, 0, none⟩ = some (.int .i64 ((rd_T76 t395 x14_1).f0)) := bc_ BK399 0; have hcz18_1 : w16.cell? ⟨gb399, 1, none⟩ = some (.int .i64 ((rd_T76 t395 x14_1).f1)) := bc_ BK399 1; have hfz18_0 := blk_frozen BK399.out 0; have hfz18_1 := blk_frozen BK399.out 1) | ((with_reducible refine gate_builtin (b := .append) (xs := #[.tmp 26, .tmp 28]) rfl ?_); at_builtin; refine Kd.R_append k76 (w0 := w) w.heap.size rfl (.tmp 26) (.tmp 28) 23 76 (.agg #[(.int .i64 0), (.int .i64 0)]) 16 rfl Try.underlying23 info76 rfl (by decide) (by omega) u7 x7_1 (⟨(rd_T76 t395 x14_1).f0, (rd_T76 t395 x14_1).f1⟩ : S76) [.int .i64 ((rd_T76 t395 x14_1).f0), .int .i64 ((rd_T76 t395 x14_1).f1)] (fun k_ => some k_ ≠ (.slice (some ad398) t395.length co6 : Value).ownBlock ∧ k_ ≠ gb399) (fun _ => False) rfl rfl ?aP (fun _ hk => hk.elim) ?aF ?aO ?aB ?aS ?aL ?_; (case aP => exact k76_mkM _ _ _ (⟨(rd_T76 t395 x14_1).f0, (rd_T76 t395 x14_1).f1⟩ : S76)); (case aB => exact (hB HB)); (case aF => exact (fun k_ hk => ⟨Kd.fresh' (rl_ HO_12) k_ hk, Kd.freshB (g := gb399) (o := .cells #[.int .i64 ((rd_T76 t395 x14_1).f0), .int .i64 ((rd_T76 t395 x14_1).f1)] 76 (0, 0)) (ba BK399.out) k_ hk⟩)); (case aO => exact (ra HO_7.out)); (case aS => exact (below_size (hB HB))); (case aL => have := LMc13.out; omega); intro v405 w19 ho hb hg hat; rw [← Ny404.out] at ho; have HO406 := Aside0.mk (ho); replace HO_12 := Aside0.mk (Kd.R_after (ok := (fun k_ => k_ ≠ gb399)) (rm_ HO_12 (fun _ hk => ⟨hk.2, hk.1⟩)).out hg hat); replace BKB := Aside0.mk (blk_grown (g := gbB) (ba BKB.out) hg (kne_ HO_7 BKB)); replace BK399 := Aside0.mk (blk_grown (g := gb399) (o := .cells #[.int .i64 ((rd_T76 t395 x14_1).f0), .int .i64 ((rd_T76 t395 x14_1).f1)] 76 (0, 0)) (ba BK399.out) hg (Kd.R_away HO_7.out (fun _ hk => hk.2))); replace HO402 := Aside0.mk (Kd.R_over' (ra HO402.out) (Kd.R_typed (ra HO_7.out)) (by decide) hg); replace HB := Aside0.mk (hb); clear HO_7; clear ho hb hg hat))
   go_roundg k1
   case measure => have := HK1.out; omega
   case rel => exact ⟨(y404), (wrap64 (x14_1 + 1)), (by first | rfl | (simp; done) | (simp [*]; done)), H', ⟨by have := HK1.out; omega⟩, rm_ HO406 (fun _ hk => hk.1), rm_ HO_12 (fun _ hk => hk.2), ⟨hB HB⟩, ⟨ba BKB.out⟩⟩

def impl_WantsOn.f (k : Nat) (l0 : List Int) (a1 : Int) (l2 : List Int) : Option ((List (S76)) × Bool) := (impl_goodTree.f k l0 (([a1] : List Int))).bind fun t410 => (if t410 = true then ((impl_goodWants.f k l2).bind fun t411 => (if t411 = true then ((impl_wanted.f k l0 a1 l2).bind fun t412 => (some (t412, true))) else (some (([] : List (S76)), false)))) else (some (([] : List (S76)), false)))
theorem impl_WantsOn.mono : ∀ a0 a1 a2 k, LeO (impl_WantsOn.f k a0 a1 a2) (impl_WantsOn.f (k + 1) a0 a1 a2) := by
 intro a0 a1 a2 k
 unfold impl_WantsOn.f
 repeat' first
   | (with_reducible exact impl_goodTree.mono _ _ _)
   | (with_reducible exact impl_goodWants.mono _ _)
   | (with_reducible exact impl_wanted.mono _ _ _ _)
   | (with_reducible exact LeO.refl _)
   | (with_reducible exact LeO.none _)
   | (with_reducible refine LeO.ite ?_ ?_)
   | (with_reducible refine LeO.bind ?_ (fun _ => ?_))
set_option maxHeartbeats 8000000 in
set_option maxRecDepth 100000 in
theorem impl_WantsOn.calls (k : Nat) (A0 : Option Addr) (c0 : Nat) (l0 : List Int) (a1 : Int) (A2 : Option Addr) (c2 : Nat) (l2 : List Int) (r1 : List (S76)) (r2 : Bool) (w : World) (hr0 : Kd.C (Kd.int .i64) w A0 l0.length l0) (hc0 : l0.length ≤ c0) (hr2 : Kd.C (Kd.int .i64) w A2 l2.length l2) (hc2 : l2.length ≤ c2) (h : impl_WantsOn.f k l0 a1 l2 = some (r1, r2)) :
  Calls Try.prog 11 #[.slice A0 l0.length c0, .int .i64 a1, .slice A2 l2.length c2] w fun e w' => ∃ v0_ : Value, e = .returned (.tuple #[v0_, .bool r2]) ∧ Kd.R k76 76 w' w.heap.size (fun _ => True) v0_ r1 ∧ Below w.heap.size w w' := by
 have HR0 := Aside0.mk hr0
 have HC0 := Aside0.mk hc0
 clear hr0 hc0
 have HR2 := Aside0.mk hr2
 have HC2 := Aside0.mk hc2
 clear hr2 hc2
 have HB := Aside0.mk (Below.refl w.heap.size w)
 have H : ((impl_goodTree.f k l0 (([a1] : List Int))).bind fun t410 => (if t410 = true then ((impl_goodWants.f k l2).bind fun t411 => (if t411 = true then ((impl_wanted.f k l0 a1 l2).bind fun t412 => (some (t412, true))) else (some (([] : List (S76)), false)))) else (some (([] : List (S76)), false)))) = some (r1, r2) := h
 clear h
 obtain ⟨y407, hy407⟩ : ∃ y_ : List Int, y_ = (([a1] : List Int)) := ⟨_, rfl⟩
 replace H : ((impl_goodTree.f k l0 y407).bind fun t410 => (if t410 = true then ((impl_goodWants.f k l2).bind fun t411 => (if t411 = true then ((impl_wanted.f k l0 a1 l2).bind fun t412 => (some (t412, true))) else (some (([] : List (S76)), false)))) else (some (([] : List (S76)), false)))) = some (r1, r2) := by first | (rw [hy407]; with_reducible exact H) | (have H2_ := (Option.bind_some _ _).symm.trans H; rw [hy407]; with_reducible exact H2_) | (have H2_ := (Option.bind_some _ _).symm.trans H; with_reducible exact H2_) | with_reducible exact H | (rw [hy407]; exact H) | exact H
 have Ny407 := Aside0.mk hy407
 clear hy407
 replace H := Option.bind_eq_some_iff.mp H
 obtain ⟨t410, A40, H⟩ := H
 replace H : (if t410 = true then ((impl_goodWants.f k l2).bind fun t411 => (if t411 = true then ((impl_wanted.f k l0 a1 l2).bind fun t412 => (some (t412, true))) else (some (([] : List (S76)), false)))) else (some (([] : List (S76)), false))) = some (r1, r2) := H
 have A4 := Aside0.mk A40
 clear A40
 by_cases c5 : t410 = true
 rotate_left
 ·replace c5 := Bool.eq_false_iff.mpr c5
  subst c5
  rw [if_neg (show ¬ (false = true) by decide)] at H
  simp only [Option.some.injEq, Prod.mk.injEq] at H
  obtain ⟨rfl, rfl⟩ := H
  go_enter Try.func11, Try.ntmps11
  go_wp2_with (first | ((with_reducible refine gate_dst (N := 10) rfl ?_); refine Kd.R_lit (Kd.int .i64) _ 3 ?hg (N := 10) ?hd (xs := ([a1] : List Int)) (inner := [.int .i64 a1]) (ok := fun _ => True) (okp := fun _ => True) ?hr ?hp (fun _ hk => hk) trivial (Below.refl _ _) (Nat.le_refl _) (by simp) ?_; (case hd => rfl); (case hg => rfl); (case hr => first | (go_simp; done) | (go_simp; rfl)); (case hp => exact (Reps.one (show Kd.M (Kd.int .i64) _ _ _ a1 [.int .i64 a1] from rfl) (Reps.none _ _))); intro v408 w16 ho17 hb hg_ hnew_; clear hg_ hnew_; (first | rw [← Ny407.out] at ho17 | (simp only [Int.reduceToNat] at ho17; rw [← Ny407.out] at ho17)); have HO409 := Aside0.mk (Kd.R_lower ho17 (below_size (hB HB))); replace HB := bst_ HB hb; clear hb ho17; obtain ⟨Ao18, co18, eo18⟩ := Kd.R_slice HO409.out; subst eo18) | ((with_reducible refine gate_callee (f := 77) rfl ?_); refine goesL_ (some 11) rfl rfl Try.func77 (by kernel_rfl) rfl #[.slice A0 l0.length c0, .slice Ao18 y407.length co18] rfl tm_ ?_; (with_reducible refine (impl_goodTree.calls k _ _ l0 _ _ y407 false _ ?side1 ?side2 ?side3 ?side4 A4.out).mono ?_); (case side1 => exact ca (Kd.C_below HR0.out HB.out)); (case side2 => exact HC0.out); (case side3 => exact ca (Kd.R_reads' HO409.out).2.2); (case side4 => exact (Kd.R_reads' HO409.out).2.1); rintro e w' ⟨rfl, ⟨nd, rfl⟩⟩; refine ⟨_, rfl, ?_⟩))
  go_ret2
  exact ⟨_, by first | rfl | (simp [errW_none, errW_some] <;> rfl) | (simp [*, errW_none, errW_some] <;> rfl), by first | exact Kd.R_nil _ _ _ _ _ | exact Kd.N_nil _ _ _ _ _ | exact Kd.V_nil _ _ _ _ _ | exact Kd.Q_nil _ _ _ _ _ | exact Kd.S_nil _ _ _ _ _, by repeat (first | (with_reducible first | exact HB.out | apply below_alloc | apply pw_below_drewN | apply below_drew1) | exact HB.out)⟩
 subst c5
 rw [if_pos rfl] at H
 replace H := Option.bind_eq_some_iff.mp H
 obtain ⟨t411, A60, H⟩ := H
 replace H : (if t411 = true then ((impl_wanted.f k l0 a1 l2).bind fun t412 => (some (t412, true))) else (some (([] : List (S76)), false))) = some (r1, r2) := H
 have A6 := Aside0.mk A60
 clear A60
 by_cases c7 : t411 = true
 rotate_left
 ·replace c7 := Bool.eq_false_iff.mpr c7
  subst c7
  rw [if_neg (show ¬ (false = true) by decide)] at H
  simp only [Option.some.injEq, Prod.mk.injEq] at H
  obtain ⟨rfl, rfl⟩ := H
  go_enter Try.func11, Try.ntmps11
  go_wp2_with (first | ((with_reducible refine gate_dst (N := 10) rfl ?_); refine Kd.R_lit (Kd.int .i64) _ 3 ?hg (N := 10) ?hd (xs := ([a1] : List Int)) (inner := [.int .i64 a1]) (ok := fun _ => True) (okp := fun _ => True) ?hr ?hp (fun _ hk => hk) trivial (Below.refl _ _) (Nat.le_refl _) (by simp) ?_; (case hd => rfl); (case hg => rfl); (case hr => first | (go_simp; done) | (go_simp; rfl)); (case hp => exact (Reps.one (show Kd.M (Kd.int .i64) _ _ _ a1 [.int .i64 a1] from rfl) (Reps.none _ _))); intro v408 w13 ho14 hb hg_ hnew_; clear hg_ hnew_; (first | rw [← Ny407.out] at ho14 | (simp only [Int.reduceToNat] at ho14; rw [← Ny407.out] at ho14)); have HO409 := Aside0.mk (Kd.R_lower ho14 (below_size (hB HB))); replace HB := bst_ HB hb; clear hb ho14; obtain ⟨Ao15, co15, eo15⟩ := Kd.R_slice HO409.out; subst eo15) | ((with_reducible refine gate_callee (f := 77) rfl ?_); refine goesL_ (some 11) rfl rfl Try.func77 (by kernel_rfl) rfl #[.slice A0 l0.length c0, .slice Ao15 y407.length co15] rfl tm_ ?_; (with_reducible refine (impl_goodTree.calls k _ _ l0 _ _ y407 true _ ?side1 ?side2 ?side3 ?side4 A4.out).mono ?_); (case side1 => exact ca (Kd.C_below HR0.out HB.out)); (case side2 => exact HC0.out); (case side3 => exact ca (Kd.R_reads' HO409.out).2.2); (case side4 => exact (Kd.R_reads' HO409.out).2.1); rintro e w' ⟨rfl, ⟨nd, rfl⟩⟩; refine ⟨_, rfl, ?_⟩) | (go_at_call 78; (with_reducible refine (impl_goodWants.calls k _ _ l2 false _ ?side1 ?side2 A6.out).mono ?_); (case side1 => exact ca (Kd.C_below HR2.out (hB HB))); (case side2 => exact HC2.out); rintro e w' ⟨rfl, ⟨nd, rfl⟩⟩))
  go_ret2
  exact ⟨_, by first | rfl | (simp [errW_none, errW_some] <;> rfl) | (simp [*, errW_none, errW_some] <;> rfl), by first | exact Kd.R_nil _ _ _ _ _ | exact Kd.N_nil _ _ _ _ _ | exact Kd.V_nil _ _ _ _ _ | exact Kd.Q_nil _ _ _ _ _ | exact Kd.S_nil _ _ _ _ _, by repeat (first | (with_reducible first | exact HB.out | apply below_alloc | apply pw_below_drewN | apply below_drew1) | exact HB.out)⟩
 subst c7
 rw [if_pos rfl] at H
 replace H := Option.bind_eq_some_iff.mp H
 obtain ⟨t412, A80, H⟩ := H
 replace H : (some (t412, true)) = some (r1, r2) := H
 have A8 := Aside0.mk A80
 clear A80
 simp only [Option.some.injEq, Prod.mk.injEq] at H
 obtain ⟨rfl, rfl⟩ := H
 go_enter Try.func11, Try.ntmps11
 go_wp2_with (first | ((with_reducible refine gate_dst (N := 10) rfl ?_); refine Kd.R_lit (Kd.int .i64) _ 3 ?hg (N := 10) ?hd (xs := ([a1] : List Int)) (inner := [.int .i64 a1]) (ok := fun _ => True) (okp := fun _ => True) ?hr ?hp (fun _ hk => hk) trivial (Below.refl _ _) (Nat.le_refl _) (by simp) ?_; (case hd => rfl); (case hg => rfl); (case hr => first | (go_simp; done) | (go_simp; rfl)); (case hp => exact (Reps.one (show Kd.M (Kd.int .i64) _ _ _ a1 [.int .i64 a1] from rfl) (Reps.none _ _))); intro v408 w9 ho10 hb hg_ hnew_; clear hg_ hnew_; (first | rw [← Ny407.out] at ho10 | (simp only [Int.reduceToNat] at ho10; rw [← Ny407.out] at ho10)); have HO409 := Aside0.mk (Kd.R_lower ho10 (below_size (hB HB))); replace HB := bst_ HB hb; clear hb ho10; obtain ⟨Ao11, co11, eo11⟩ := Kd.R_slice HO409.out; subst eo11) | ((with_reducible refine gate_callee (f := 77) rfl ?_); refine goesL_ (some 11) rfl rfl Try.func77 (by kernel_rfl) rfl #[.slice A0 l0.length c0, .slice Ao11 y407.length co11] rfl tm_ ?_; (with_reducible refine (impl_goodTree.calls k _ _ l0 _ _ y407 true _ ?side1 ?side2 ?side3 ?side4 A4.out).mono ?_); (case side1 => exact ca (Kd.C_below HR0.out HB.out)); (case side2 => exact HC0.out); (case side3 => exact ca (Kd.R_reads' HO409.out).2.2); (case side4 => exact (Kd.R_reads' HO409.out).2.1); rintro e w' ⟨rfl, ⟨nd, rfl⟩⟩; refine ⟨_, rfl, ?_⟩) | (go_at_call 78; (with_reducible refine (impl_goodWants.calls k _ _ l2 true _ ?side1 ?side2 A6.out).mono ?_); (case side1 => exact ca (Kd.C_below HR2.out (hB HB))); (case side2 => exact HC2.out); rintro e w' ⟨rfl, ⟨nd, rfl⟩⟩) | ((with_reducible refine gate_callee (f := 79) rfl ?_); refine goesL_ (some 21) rfl rfl Try.func79 (by kernel_rfl) rfl #[.slice A0 l0.length c0, .int .i64 a1, .slice A2 l2.length c2] rfl tm_ ?_; (with_reducible refine (impl_wanted.calls k _ _ l0 a1 _ _ l2 t412 _ ?side1 ?side2 ?side3 ?side4 A8.out).mono ?_); (case side1 => exact ca (Kd.C_below HR0.out (hB HB))); (case side2 => exact HC0.out); (case side3 => exact ca (Kd.C_below HR2.out (hB HB))); (case side4 => exact HC2.out); rintro e w12 ⟨v413, rfl, ho0, hb⟩; refine ⟨_, rfl, ?_⟩; have HO414 := Aside0.mk (Kd.R_lower ho0 (below_size (hB HB))); replace HO409 := rb_ HO409 hb; replace HB := bst_ HB hb; clear hb ho0))
 go_ret2
 exact ⟨_, by first | rfl | (simp [errW_none, errW_some] <;> rfl) | (simp [*, errW_none, errW_some] <;> rfl), by (with_reducible repeat (first | apply Kd.R_alloc | apply Kd.R_drewN | apply Kd.R_drew)); exact HO414.out, by repeat (first | (with_reducible first | exact HB.out | apply below_alloc | apply pw_below_drewN | apply below_drew1) | exact HB.out)⟩

end Go.Proofs.Ytfkjnpgpofcinaa.P
