import Derived.Test.YthambdfgkfkcmaaF0
import Derived.Test.YthambdfgkfkcmaaF4
namespace Go.Proofs.Ythambdfgkfkcmaa.P
open Go.RowKit Go.Proofs.YthambdfgkfkcmaaW.PrintWords Go.Proofs.YthambdfgkfkcmaaW.PrintLast Go.Proofs.YthambdfgkfkcmaaW.PrintMore
attribute [local go_sem] max2_int min2_int max_two min_two max_three min_three max_four min_four   -- for this text's walks alone
set_option linter.unusedVariables false
set_option linter.unusedSimpArgs false
attribute [local go_sem high] eqA47

mutual
def impl_flow_search.l0 : Nat → Int → List Int → Int → Int → Int → List (S47) → List Int → Option (List Int × Int)
 | 0, _, _, _, _, _, _, _ => none
 | k + 1, x1, x5, x15, x16, x1000, x1001, x1002 => if x16 < x15 then (if 0 ≤ x16 then (if x16 < (x5.length : Int) then (impl_flow_search.l0 k x1 (x5.set (x16 : Int).toNat (-1)) x15 (wrap64 (x16 + 1)) x1000 x1001 x1002) else (none)) else (none)) else (if 0 ≤ x1 then (if x1 < (x5.length : Int) then (impl_flow_search.l1 k (x5.set (x1 : Int).toNat x1) (([x1] : List Int)) x1000 x1001 x1002) else (none)) else (none))
def impl_flow_search.l1 : Nat → List Int → List Int → Int → List (S47) → List Int → Option (List Int × Int)
 | 0, _, _, _, _, _ => none
 | k + 1, x5, x7, x1000, x1001, x1002 => if (x7.length : Int) > 0 then (impl_flow_search.l2 k x5 x7 x1000 0 x1000 x1001 x1002) else (some (x5, x1000))
def impl_flow_search.l2 : Nat → List Int → List Int → Int → Int → Int → List (S47) → List Int → Option (List Int × Int)
 | 0, _, _, _, _, _, _, _ => none
 | k + 1, x5, x7, x37, x38, x1000, x1001, x1002 => if x38 < x37 then (if 0 ≤ x38 then (if x38 < (x5.length : Int) then (if (rd x5 x38) < 0 then (if 0 < (x7.length : Int) then ((impl_flow_open.f k x1000 x1001 x1002 (rd x7 0) x38).bind fun bt267 => (if bt267.1 = true then (if x7.length < 17592186044416 then (impl_flow_search.l2 k (x5.set (x38 : Int).toNat (rd x7 0)) (x7 ++ [x38]) x37 (wrap64 (x38 + 1)) bt267.2 x1001 x1002) else (none)) else (impl_flow_search.l2 k x5 x7 x37 (wrap64 (x38 + 1)) bt267.2 x1001 x1002))) else (none)) else (impl_flow_search.l2 k x5 x7 x37 (wrap64 (x38 + 1)) x1000 x1001 x1002)) else (none)) else (none)) else (if 1 ≤ (x7.length : Int) then (impl_flow_search.l1 k x5 (x7.drop (1 : Int).toNat) x1000 x1001 x1002) else (none))
end
def impl_flow_search.f (k : Nat) (s0_0 : Int) (s0_1 : List (S47)) (s0_2 : List Int) (a1 : Int) : Option (List Int × Int) := if 0 ≤ s0_0 then (if (s0_0 : Int).toNat ≤ 35184372088832 then ((some (List.replicate (s0_0 : Int).toNat 0 : List Int)).bind fun y257 => (impl_flow_search.l0 k a1 y257 (y257.length : Int) 0 s0_0 s0_1 s0_2)) else (none)) else (none)
theorem impl_flow_search.mono_l : ∀ k, (∀ y0 y1 y2 y3 y4 y5 y6, LeO (impl_flow_search.l0 k y0 y1 y2 y3 y4 y5 y6) (impl_flow_search.l0 (k + 1) y0 y1 y2 y3 y4 y5 y6)) ∧ (∀ y0 y1 y2 y3 y4, LeO (impl_flow_search.l1 k y0 y1 y2 y3 y4) (impl_flow_search.l1 (k + 1) y0 y1 y2 y3 y4)) ∧ (∀ y0 y1 y2 y3 y4 y5 y6, LeO (impl_flow_search.l2 k y0 y1 y2 y3 y4 y5 y6) (impl_flow_search.l2 (k + 1) y0 y1 y2 y3 y4 y5 y6))
 | 0 => ⟨fun _ _ _ _ _ _ _ r h => by simp [impl_flow_search.l0] at h, fun _ _ _ _ _ r h => by simp [impl_flow_search.l1] at h, fun _ _ _ _ _ _ _ r h => by simp [impl_flow_search.l2] at h⟩
 | k + 1 => by
  obtain ⟨ih0, ih1, ih2⟩ := impl_flow_search.mono_l k
  refine ⟨?_, ?_, ?_⟩
  ·intro y0 y1 y2 y3 y4 y5 y6
   unfold impl_flow_search.l0
   repeat' first
   | (with_reducible exact ih0 _ _ _ _ _ _ _)
   | (with_reducible exact ih1 _ _ _ _ _)
   | (with_reducible exact ih2 _ _ _ _ _ _ _)
   | (with_reducible exact impl_flow_open.mono _ _ _ _ _ _)
   | with_reducible first | exact LeO.refl _ | exact LeO.none _ | refine LeO.ite ?_ ?_ | refine LeO.bind ?_ fun _ => ?_
  ·intro y0 y1 y2 y3 y4
   unfold impl_flow_search.l1
   repeat' first
   | (with_reducible exact ih0 _ _ _ _ _ _ _)
   | (with_reducible exact ih1 _ _ _ _ _)
   | (with_reducible exact ih2 _ _ _ _ _ _ _)
   | (with_reducible exact impl_flow_open.mono _ _ _ _ _ _)
   | with_reducible first | exact LeO.refl _ | exact LeO.none _ | refine LeO.ite ?_ ?_ | refine LeO.bind ?_ fun _ => ?_
  ·intro y0 y1 y2 y3 y4 y5 y6
   unfold impl_flow_search.l2
   repeat' first
   | (with_reducible exact ih0 _ _ _ _ _ _ _)
   | (with_reducible exact ih1 _ _ _ _ _)
   | (with_reducible exact ih2 _ _ _ _ _ _ _)
   | (with_reducible exact impl_flow_open.mono _ _ _ _ _ _)
   | with_reducible first | exact LeO.refl _ | exact LeO.none _ | refine LeO.ite ?_ ?_ | refine LeO.bind ?_ fun _ => ?_
theorem impl_flow_search.mono : ∀ a0 a1 a2 a3 k, LeO (impl_flow_search.f k a0 a1 a2 a3) (impl_flow_search.f (k + 1) a0 a1 a2 a3) := by
 intro a0 a1 a2 a3 k
 obtain ⟨ih0, ih1, ih2⟩ := impl_flow_search.mono_l k
 unfold impl_flow_search.f
 repeat' first
   | (with_reducible exact ih0 _ _ _ _ _ _ _)
   | (with_reducible exact ih1 _ _ _ _ _)
   | (with_reducible exact ih2 _ _ _ _ _ _ _)
   | (with_reducible exact impl_flow_open.mono _ _ _ _ _ _)
   | with_reducible first | exact LeO.refl _ | exact LeO.none _ | refine LeO.ite ?_ ?_ | refine LeO.bind ?_ fun _ => ?_
set_option maxHeartbeats 8000000 in
set_option maxRecDepth 100000 in
theorem impl_flow_search.calls (k : Nat) (g : Nat) (s0_0 : Int) (s0_1 : List (S47)) (s0_2 : List Int) (a1 : Int) (r1 : List Int) (r2 : Int) (w0 w : World) (hI : IsS109 w0 w g s0_0 s0_1 s0_2) (hB : Below w0.heap.size w0 w) (h : impl_flow_search.f k s0_0 s0_1 s0_2 a1 = some (r1, r2)) :
  Calls Try.prog 63 #[.pointer (some ⟨g, 0, none⟩), .int .i64 a1] w fun e w' => ∃ v0_ : Value, e = .returned (v0_) ∧ Kd.R (Kd.int .i64) 3 w' w.heap.size (fun _ => True) v0_ r1 ∧ IsS109 w0 w' g r2 s0_1 s0_2 ∧ Below w0.heap.size w0 w' ∧ KeepAll w w' g none := by
 have HI0 := Aside0.mk hI
 have HK := Aside0.mk (KeepAll.refl w g none)
 have HL := Aside0.mk hB.size
 clear hI
 have HW0 := Aside0.mk hB.size
 have HB := Aside0.mk hB
 clear hB
 have H : (if 0 ≤ s0_0 then (if (s0_0 : Int).toNat ≤ 35184372088832 then ((some (List.replicate (s0_0 : Int).toNat 0 : List Int)).bind fun y257 => (impl_flow_search.l0 k a1 y257 (y257.length : Int) 0 s0_0 s0_1 s0_2)) else (none)) else (none)) = some (r1, r2) := h
 clear h
 by_cases c3 : 0 ≤ s0_0
 rotate_left
 ·rw [if_neg c3] at H
  exact absurd H (by simp)
 rw [if_pos c3] at H
 have c3b0 := eq_true c3
 have c3b1 : decide (0 ≤ s0_0) = true := decide_eq_true c3
 clear c3
 by_cases c4 : (s0_0 : Int).toNat ≤ 35184372088832
 rotate_left
 ·rw [if_neg c4] at H
  exact absurd H (by simp)
 rw [if_pos c4] at H
 have c4b0 := eq_true c4
 have c4b1 : decide ((s0_0 : Int).toNat ≤ 35184372088832) = true := decide_eq_true c4
 clear c4
 obtain ⟨y257, hy257⟩ : ∃ y_ : List Int, y_ = (List.replicate (s0_0 : Int).toNat 0) := ⟨_, rfl⟩
 replace H : (impl_flow_search.l0 k a1 y257 (y257.length : Int) 0 s0_0 s0_1 s0_2) = some (r1, r2) := by first | (rw [hy257]; with_reducible exact H) | (have H2_ := (Option.bind_some _ _).symm.trans H; rw [hy257]; with_reducible exact H2_) | (have H2_ := (Option.bind_some _ _).symm.trans H; with_reducible exact H2_) | with_reducible exact H | (rw [hy257]; exact H) | exact H
 have Ny257 := Aside0.mk hy257
 clear hy257
 have H' := Aside0.mk H
 clear H
 obtain ⟨ASz5_1, cSz5_1, ASz5_2, cSz5_2, HGz5, hgz5, HSz5_1, HSz5_2⟩ := HI0.out
 have hcz5_0 := cellS109_0 HGz5
 have hcz5_1 := cellS109_1 HGz5
 have hcz5_2 := cellS109_2 HGz5
 have hfz5_0 := blk_frozen HGz5 0
 clear HGz5 hgz5
 go_enter Try.func63, Try.ntmps63
 go_wp2_with (first | ((with_reducible refine gate_dst (N := 13) rfl ?_); refine Kd.R_make (Kd.int .i64) _ 3 rfl (N := 13) rfl 24 _ _ rfl s0_0 rfl rfl Try.underlying24 (.int .i64 0) 8 info3 rfl (by decide) (by omega) 0 (ok := fun _ => True) (okp := fun _ => True) rfl (fun _ hk => hk) trivial (od_) (Nat.le_trans (Nat.mul_le_mul_right _ (od_ : s0_0.toNat ≤ 35184372088832)) (by omega)) (Below.refl _ _) (Nat.le_refl _) ?_; intro v258 w6 ho7 hb hg_ hnew_; clear hg_ hnew_; (first | rw [← Ny257.out] at ho7 | (simp only [Int.reduceToNat] at ho7; rw [← Ny257.out] at ho7)); have HO259 := Aside0.mk (Kd.R_lower ho7 (keepA_size (w := w) (g := g) (row := none) (by repeat (first | (with_reducible first | exact HK.out | apply keepA_drewN | apply keepA_drew | apply keepA_alloc) | exact HK.out)))); replace HK := Aside0.mk (KeepAll.trans (by repeat (first | (with_reducible first | exact HK.out | apply keepA_drewN | apply keepA_drew | apply keepA_alloc) | exact HK.out)) (KeepAll.of_below hb g none) (.inl rfl)); replace HB := Aside0.mk (below_step (by repeat (first | (with_reducible first | exact HB.out | apply below_alloc | apply pw_below_drewN | apply below_drew1 | refine below_set ?_ (IsS109.ge HI0.out)) | exact HB.out)) hb); replace HI0 := Aside0.mk (IsS109.below (by repeat (first | (with_reducible first | exact HI0.out | apply IsS109.alloc | apply IsS109.drewN | apply IsS109.drew | apply IsS109.set_0) | exact HI0.out)) hb); clear hb ho7; obtain ⟨Ao8, co8, eo8⟩ := Kd.R_slice HO259.out; subst eo8))
 go_loopg [16] k (fun kq v16 w' => ∃ (x5_1 : List Int) (x16_1 : Int), v16 = .int .i64 x16_1 ∧ Aside0 (impl_flow_search.l0 kq a1 x5_1 (y257.length : Int) x16_1 s0_0 s0_1 s0_2 = some (r1, r2)) ∧ Aside0 (kq ≤ k) ∧ Aside0 (Kd.R (Kd.int .i64) 3 w' w.heap.size (fun _ => True) (.slice Ao8 y257.length co8) x5_1) ∧ Aside0 (IsS109 w0 w' g s0_0 s0_1 s0_2) ∧ Aside0 (KeepAll w w' g none) ∧ Aside0 (Below w0.heap.size w0 w'))
 case atStart => exact ⟨(y257), (0), (by first | rfl | (simp; done) | (simp [*]; done)), H', ⟨Nat.le_refl _⟩, ⟨ra HO259.out⟩, ⟨by repeat (first | (with_reducible first | exact HI0.out | apply IsS109.alloc | apply IsS109.drewN | apply IsS109.drew | apply IsS109.set_0) | exact HI0.out)⟩, ⟨by repeat (first | (with_reducible first | exact HK.out | apply keepA_drewN | apply keepA_drew | apply keepA_alloc) | exact HK.out)⟩, ⟨by repeat (first | (with_reducible first | exact HB.out | apply below_alloc | apply pw_below_drewN | apply below_drew1 | refine below_set ?_ (IsS109.ge HI0.out)) | exact HB.out)⟩⟩
 case round =>
  clear H'
  try clear c3
  try clear c3b0
  try clear c3b1
  try clear c4
  try clear c4b0
  try clear c4b1
  try clear hcz5_0
  try clear hcz5_1
  try clear hcz5_2
  try clear hfz5_0
  obtain ⟨x5_1, x16_1, rfl, HA, HK1, HO_5, HI0, HK, HB⟩ := hrel
  have hl5_1 := (Kd.R_reads' HO_5.out).1
  rw [hl5_1] at HO_5
  (try simp only [hl5_1])
  cases gk with
  | zero => exact absurd HA.out (by simp [impl_flow_search.l0])
  | succ k1 =>
   have H := HA.out
   clear HA
   simp only [impl_flow_search.l0] at H
   by_cases c9 : x16_1 < (y257.length : Int)
   ·rw [if_pos c9] at H
    have c9b0 : decide (x16_1 < (y257.length : Int)) = true := decide_eq_true c9
    clear c9
    by_cases c10 : 0 ≤ x16_1
    rotate_left
    ·rw [if_neg c10] at H
     exact absurd H (by simp)
    rw [if_pos c10] at H
    have c10b0 : decide (0 ≤ x16_1) = true := decide_eq_true c10
    clear c10
    by_cases c11 : x16_1 < (x5_1.length : Int)
    rotate_left
    ·rw [if_neg c11] at H
     exact absurd H (by simp)
    rw [if_pos c11] at H
    have c11b0 : decide (x16_1 < (x5_1.length : Int)) = true := decide_eq_true c11
    clear c11
    obtain ⟨y260, hy260⟩ : ∃ y_ : List Int, y_ = (x5_1.set (x16_1 : Int).toNat (-1)) := ⟨_, rfl⟩
    replace H : (impl_flow_search.l0 k1 a1 y260 (y257.length : Int) (wrap64 (x16_1 + 1)) s0_0 s0_1 s0_2) = some (r1, r2) := by first | (rw [hy260]; with_reducible exact H) | (have H2_ := (Option.bind_some _ _).symm.trans H; rw [hy260]; with_reducible exact H2_) | (have H2_ := (Option.bind_some _ _).symm.trans H; with_reducible exact H2_) | with_reducible exact H | (rw [hy260]; exact H) | exact H
    have Ny260 := Aside0.mk hy260
    clear hy260
    have H' := Aside0.mk H
    clear H
    have p12 : 0 ≤ (x16_1 : Int) := od_
    have q12 : (x16_1 : Int) < ((x5_1.length : Int) : Int) := od_
    obtain ⟨go12, co12, eo12, gb12, gl12, cl12, HG12⟩ := Kd.R_form HO_5.out (by omega)
    (first | cases eo12 | (injection eo12 with ea_ en_ ec_; (first | subst ea_ | (injection ea_ with ea_; subst ea_)); subst ec_; clear en_))
    have GB12 := Aside0.mk gb12
    have GG12 := Aside0.mk HG12
    clear gb12 gl12 HG12
    obtain ⟨hx12_0, hf12_0⟩ := Kd.R_celln 0 HO_5.out (x16_1 : Int) p12 q12
    replace p12 := eq_true p12
    replace q12 := eq_true q12
    have HP13 := Kd.R_putg HO_5.out (x16_1 : Int) (-1)
    go_wp2_with (first | ((with_reducible refine gate_store (t := 3) (p := 21) rfl ?_); refine store_event (t := 3) (p := 21) (v := ?vo_w14) (w1 := (wr.setCell ⟨go12, (x16_1 : Int).toNat, none⟩ (.int .i64 (-1)))) ?hg ?ho ?hn ?hr ?_; (case ho => rfl); (case hg => rfl); (case hn => rfl); (case hr => first | (go_simp; done) | (go_simp; rfl)); intro w14 hw; have hg : wr.grownBy w14 (some go12) := (by rw [hw]; exact HP13.2); have hp_ : Kd.R (Kd.int .i64) 3 w14 w.heap.size (fun _ => True) (.slice (some ⟨go12, 0, none⟩) x5_1.length co8) y260 := (by rw [hw, Ny260.out]; exact HP13.1); clear HP13; replace HI0 := Aside0.mk (IsS109.grown (by repeat (first | (with_reducible first | exact HI0.out | apply IsS109.alloc | apply IsS109.drewN | apply IsS109.drew | apply IsS109.set_0) | exact HI0.out)) hg (IsS109.own_ne HI0.out HO_5.out (by decide))); replace HB := Aside0.mk ((by rw [hw]; exact below_set (HB.out) (Nat.le_trans HL.out GB12.out) : Below w0.heap.size w0 w14)); replace HK := Aside0.mk (KeepAll.trans (by repeat (first | (with_reducible first | exact HK.out | apply keepA_drewN | apply keepA_drew | apply keepA_alloc) | exact HK.out)) (KeepAll.of_grown hg g) (Kd.R_base2 HO_5.out)); replace HO_5 := Aside0.mk (hp_); clear hg hw hp_))
    (try simp only [← hl5_1])
    go_roundg k1
    case measure => have := HK1.out; omega
    case rel => exact ⟨(y260), (wrap64 (x16_1 + 1)), (by first | rfl | (simp; done) | (simp [*]; done)), H', ⟨by have := HK1.out; omega⟩, ⟨by (try simp only [hl5_1]); (with_reducible repeat (first | apply Kd.R_alloc | apply Kd.R_drewN | apply Kd.R_drew)); exact HO_5.out⟩, ⟨by repeat (first | (with_reducible first | exact HI0.out | apply IsS109.alloc | apply IsS109.drewN | apply IsS109.drew | apply IsS109.set_0) | exact HI0.out)⟩, ⟨by repeat (first | (with_reducible first | exact HK.out | apply keepA_drewN | apply keepA_drew | apply keepA_alloc) | exact HK.out)⟩, ⟨by repeat (first | (with_reducible first | exact HB.out | apply below_alloc | apply pw_below_drewN | apply below_drew1 | refine below_set ?_ (IsS109.ge HI0.out)) | exact HB.out)⟩⟩
   rw [if_neg c9] at H
   have c9b0 : decide (x16_1 < (y257.length : Int)) = false := decide_eq_false c9
   have c9b9 : decide (x16_1 < (x5_1.length : Int)) = false := by rw [← hl5_1]; exact c9b0
   clear c9
   by_cases c15 : 0 ≤ a1
   rotate_left
   ·rw [if_neg c15] at H
    exact absurd H (by simp)
   rw [if_pos c15] at H
   have c15b0 : decide (0 ≤ a1) = true := decide_eq_true c15
   clear c15
   by_cases c16 : a1 < (x5_1.length : Int)
   rotate_left
   ·rw [if_neg c16] at H
    exact absurd H (by simp)
   rw [if_pos c16] at H
   have c16b0 : decide (a1 < (x5_1.length : Int)) = true := decide_eq_true c16
   clear c16
   obtain ⟨y261, hy261⟩ : ∃ y_ : List Int, y_ = (x5_1.set (a1 : Int).toNat a1) := ⟨_, rfl⟩
   replace H : (impl_flow_search.l1 k1 y261 (([a1] : List Int)) s0_0 s0_1 s0_2) = some (r1, r2) := by first | (rw [hy261]; with_reducible exact H) | (have H2_ := (Option.bind_some _ _).symm.trans H; rw [hy261]; with_reducible exact H2_) | (have H2_ := (Option.bind_some _ _).symm.trans H; with_reducible exact H2_) | with_reducible exact H | (rw [hy261]; exact H) | exact H
   have Ny261 := Aside0.mk hy261
   clear hy261
   obtain ⟨y262, hy262⟩ : ∃ y_ : List Int, y_ = (([a1] : List Int)) := ⟨_, rfl⟩
   replace H : (impl_flow_search.l1 k1 y261 y262 s0_0 s0_1 s0_2) = some (r1, r2) := by first | (rw [hy262]; with_reducible exact H) | (have H2_ := (Option.bind_some _ _).symm.trans H; rw [hy262]; with_reducible exact H2_) | (have H2_ := (Option.bind_some _ _).symm.trans H; with_reducible exact H2_) | with_reducible exact H | (rw [hy262]; exact H) | exact H
   have Ny262 := Aside0.mk hy262
   clear hy262
   have H' := Aside0.mk H
   clear H
   have p17 : 0 ≤ (a1 : Int) := od_
   have q17 : (a1 : Int) < ((x5_1.length : Int) : Int) := od_
   obtain ⟨go17, co17, eo17, gb17, gl17, cl17, HG17⟩ := Kd.R_form HO_5.out (by omega)
   (first | cases eo17 | (injection eo17 with ea_ en_ ec_; (first | subst ea_ | (injection ea_ with ea_; subst ea_)); subst ec_; clear en_))
   have GB17 := Aside0.mk gb17
   have GG17 := Aside0.mk HG17
   clear gb17 gl17 HG17
   obtain ⟨hx17_0, hf17_0⟩ := Kd.R_celln 0 HO_5.out (a1 : Int) p17 q17
   replace p17 := eq_true p17
   replace q17 := eq_true q17
   have HP18 := Kd.R_putg HO_5.out (a1 : Int) a1
   go_wp2_with (first | ((with_reducible refine gate_store (t := 3) (p := 26) rfl ?_); refine store_event (t := 3) (p := 26) (v := ?vo_w19) (w1 := (wr.setCell ⟨go17, (a1 : Int).toNat, none⟩ (.int .i64 a1))) ?hg ?ho ?hn ?hr ?_; (case ho => rfl); (case hg => rfl); (case hn => rfl); (case hr => first | (go_simp; done) | (go_simp; rfl)); intro w19 hw; have hg : wr.grownBy w19 (some go17) := (by rw [hw]; exact HP18.2); have hp_ : Kd.R (Kd.int .i64) 3 w19 w.heap.size (fun _ => True) (.slice (some ⟨go17, 0, none⟩) x5_1.length co8) y261 := (by rw [hw, Ny261.out]; exact HP18.1); clear HP18; replace HI0 := Aside0.mk (IsS109.grown (by repeat (first | (with_reducible first | exact HI0.out | apply IsS109.alloc | apply IsS109.drewN | apply IsS109.drew | apply IsS109.set_0) | exact HI0.out)) hg (IsS109.own_ne HI0.out HO_5.out (by decide))); replace HB := Aside0.mk ((by rw [hw]; exact below_set (HB.out) (Nat.le_trans HL.out GB17.out) : Below w0.heap.size w0 w19)); replace HK := Aside0.mk (KeepAll.trans (by repeat (first | (with_reducible first | exact HK.out | apply keepA_drewN | apply keepA_drew | apply keepA_alloc) | exact HK.out)) (KeepAll.of_grown hg g) (Kd.R_base2 HO_5.out)); replace HO_5 := Aside0.mk (hp_); clear hg hw hp_) | ((with_reducible refine gate_dst (N := 28) rfl ?_); refine Kd.R_lit (Kd.int .i64) _ 3 ?hg (N := 28) ?hd (xs := ([a1] : List Int)) (inner := [.int .i64 a1]) (ok := fun _ => True) (okp := fun _ => True) ?hr ?hp (fun _ hk => hk) trivial (Below.refl _ _) (Nat.le_refl _) (by simp) ?_; (case hd => rfl); (case hg => rfl); (case hr => first | (go_simp; done) | (go_simp; rfl)); (case hp => exact (Reps.one (show Kd.M (Kd.int .i64) _ _ _ a1 [.int .i64 a1] from rfl) (Reps.none _ _))); intro v263 w20 ho21 hb hg_ hnew_; clear hg_ hnew_; (first | rw [← Ny262.out] at ho21 | (simp only [Int.reduceToNat] at ho21; rw [← Ny262.out] at ho21)); have HO264 := Aside0.mk (Kd.R_lower (Kd.R_new' ho21 (rl_ HO_5)) (keepA_size (w := w) (g := g) (row := none) (by repeat (first | (with_reducible first | exact HK.out | apply keepA_drewN | apply keepA_drew | apply keepA_alloc) | exact HK.out)))); replace HO_5 := re_ HO_5 ho21 hb; replace HK := Aside0.mk (KeepAll.trans (by repeat (first | (with_reducible first | exact HK.out | apply keepA_drewN | apply keepA_drew | apply keepA_alloc) | exact HK.out)) (KeepAll.of_below hb g none) (.inl rfl)); replace HB := Aside0.mk (below_step (by repeat (first | (with_reducible first | exact HB.out | apply below_alloc | apply pw_below_drewN | apply below_drew1 | refine below_set ?_ (IsS109.ge HI0.out)) | exact HB.out)) hb); replace HI0 := Aside0.mk (IsS109.below (by repeat (first | (with_reducible first | exact HI0.out | apply IsS109.alloc | apply IsS109.drewN | apply IsS109.drew | apply IsS109.set_0) | exact HI0.out)) hb); clear hb ho21))
   go_loopg [7] k1 (fun kq v7 w' => ∃ (x5_2 : List Int) (x7_2 : List Int) (x1000_2 : Int), Aside0 (impl_flow_search.l1 kq x5_2 x7_2 x1000_2 s0_1 s0_2 = some (r1, r2)) ∧ Aside0 (kq ≤ k1) ∧ Aside0 (Kd.R (Kd.int .i64) 3 w' w.heap.size (fun k_ => no_ v7 k_) (.slice (some ⟨go17, 0, none⟩) x5_1.length co8) x5_2) ∧ Aside0 (Kd.Q (Kd.int .i64) 3 w' w.heap.size (fun k_ => some k_ ≠ ((.slice (some ⟨go17, 0, none⟩) x5_1.length co8) : Value).ownBlock) v7 x7_2) ∧ Aside0 (IsS109 w0 w' g x1000_2 s0_1 s0_2) ∧ Aside0 (KeepAll w w' g none) ∧ Aside0 (Below w0.heap.size w0 w'))
   case atStart => exact ⟨(y261), (y262), (s0_0), H', ⟨Nat.le_refl _⟩, ⟨by (try simp only [hl5_1]); (with_reducible repeat (first | apply Kd.R_alloc | apply Kd.R_drewN | apply Kd.R_drew)); exact Kd.R_mono HO_5.out (fun _ hk => hk.2)⟩, ⟨Kd.Q_of_R (by (try simp only [hl5_1]); (with_reducible repeat (first | apply Kd.R_alloc | apply Kd.R_drewN | apply Kd.R_drew)); exact Kd.R_mono HO264.out (fun _ hk => hk.2))⟩, ⟨by repeat (first | (with_reducible first | exact HI0.out | apply IsS109.alloc | apply IsS109.drewN | apply IsS109.drew | apply IsS109.set_0) | exact HI0.out)⟩, ⟨by repeat (first | (with_reducible first | exact HK.out | apply keepA_drewN | apply keepA_drew | apply keepA_alloc) | exact HK.out)⟩, ⟨by repeat (first | (with_reducible first | exact HB.out | apply below_alloc | apply pw_below_drewN | apply below_drew1 | refine below_set ?_ (IsS109.ge HI0.out)) | exact HB.out)⟩⟩
   case round =>
    clear H'
    try clear c3
    try clear c3b0
    try clear c3b1
    try clear c4
    try clear c4b0
    try clear c4b1
    try clear c9
    try clear c9b0
    try clear c15
    try clear c15b0
    try clear c16
    try clear c16b0
    try clear p17
    try clear q17
    try clear hcz5_0
    try clear hcz5_1
    try clear hcz5_2
    try clear hfz5_0
    try clear hx17_0
    try clear p17
    try clear q17
    obtain ⟨x5_2, x7_2, x1000_2, HA, HK2, HO_5, HO_7, HI0, HK, HB⟩ := hrel
    have hl5_2 := (Kd.R_reads' HO_5.out).1
    rw [hl5_2] at HO_5
    (try simp only [hl5_2])
    (try simp only [hl5_2] at HO_7)
    cases gk with
    | zero => exact absurd HA.out (by simp [impl_flow_search.l1])
    | succ k2 =>
     have H := HA.out
     clear HA
     simp only [impl_flow_search.l1] at H
     by_cases c22 : (x7_2.length : Int) > 0
     rotate_left
     ·rw [if_neg c22] at H
      have c22b0 : decide (0 < (x7_2.length : Int)) = false := decide_eq_false c22
      have c22b1 : decide (0 < x7_2.length) = false := decide_eq_false (by omega)
      clear c22
      simp only [Option.some.injEq, Prod.mk.injEq] at H
      obtain ⟨rfl, rfl⟩ := H
      obtain ⟨Ao44, co44, eo44, _⟩ := Kd.Q_slice HO_7.out
      subst eo44
      go_wp2
      go_ret
      exact ⟨_, rt_, by (with_reducible repeat (first | apply Kd.R_alloc | apply Kd.R_drewN | apply Kd.R_drew)); exact Kd.R_mono HO_5.out (fun _ hk => trivial), by repeat (first | (with_reducible first | exact HI0.out | apply IsS109.alloc | apply IsS109.drewN | apply IsS109.drew | apply IsS109.set_0) | exact HI0.out), by repeat (first | (with_reducible first | exact HB.out | apply below_alloc | apply pw_below_drewN | apply below_drew1 | refine below_set ?_ (IsS109.ge HI0.out)) | exact HB.out), by repeat (first | (with_reducible first | exact HK.out | apply keepA_drewN | apply keepA_drew | apply keepA_alloc) | exact HK.out)⟩
     rw [if_pos c22] at H
     have c22b0 : decide (0 < (x7_2.length : Int)) = true := decide_eq_true c22
     have c22b1 : decide (0 < x7_2.length) = true := decide_eq_true (by omega)
     clear c22
     have H' := Aside0.mk H
     clear H
     obtain ⟨Ao23, co23, eo23, _⟩ := Kd.Q_slice HO_7.out
     subst eo23
     obtain ⟨ASz24_1, cSz24_1, ASz24_2, cSz24_2, HGz24, hgz24, HSz24_1, HSz24_2⟩ := HI0.out
     have hcz24_0 := cellS109_0 HGz24
     have hcz24_1 := cellS109_1 HGz24
     have hcz24_2 := cellS109_2 HGz24
     have hfz24_0 := blk_frozen HGz24 0
     clear HGz24 hgz24
     go_wp2
     go_loopg [7, 38] k2 (fun kq v7 v38 w' => ∃ (x5_3 : List Int) (x7_3 : List Int) (x38_3 : Int) (x1000_3 : Int), v38 = .int .i64 x38_3 ∧ Aside0 (impl_flow_search.l2 kq x5_3 x7_3 x1000_2 x38_3 x1000_3 s0_1 s0_2 = some (r1, r2)) ∧ Aside0 (kq ≤ k2) ∧ Aside0 (Kd.R (Kd.int .i64) 3 w' w.heap.size (fun k_ => no_ v7 k_) (.slice (some ⟨go17, 0, none⟩) x5_2.length co8) x5_3) ∧ Aside0 (Kd.Q (Kd.int .i64) 3 w' w.heap.size (fun k_ => some k_ ≠ ((.slice (some ⟨go17, 0, none⟩) x5_2.length co8) : Value).ownBlock) v7 x7_3) ∧ Aside0 (IsS109 w0 w' g x1000_3 s0_1 s0_2) ∧ Aside0 (KeepAll w w' g none) ∧ Aside0 (Below w0.heap.size w0 w'))
     case atStart => exact ⟨(x5_2), (x7_2), (0), (x1000_2), (by first | rfl | (simp; done) | (simp [*]; done)), H', ⟨Nat.le_refl _⟩, ⟨by (try simp only [hl5_1]); (try simp only [hl5_2]); (with_reducible repeat (first | apply Kd.R_alloc | apply Kd.R_drewN | apply Kd.R_drew)); exact HO_5.out⟩, ⟨by (try simp only [hl5_1]); (try simp only [hl5_2]); (with_reducible repeat (first | apply Kd.Q_alloc | apply Kd.Q_drewN | apply Kd.Q_drew)); exact HO_7.out⟩, ⟨by repeat (first | (with_reducible first | exact HI0.out | apply IsS109.alloc | apply IsS109.drewN | apply IsS109.drew | apply IsS109.set_0) | exact HI0.out)⟩, ⟨by repeat (first | (with_reducible first | exact HK.out | apply keepA_drewN | apply keepA_drew | apply keepA_alloc) | exact HK.out)⟩, ⟨by repeat (first | (with_reducible first | exact HB.out | apply below_alloc | apply pw_below_drewN | apply below_drew1 | refine below_set ?_ (IsS109.ge HI0.out)) | exact HB.out)⟩⟩
     case round =>
      clear H'
      try clear c3
      try clear c3b0
      try clear c3b1
      try clear c4
      try clear c4b0
      try clear c4b1
      try clear c9
      try clear c9b0
      try clear c15
      try clear c15b0
      try clear c16
      try clear c16b0
      try clear p17
      try clear q17
      try clear c22
      try clear c22b0
      try clear c22b1
      try clear hcz24_0
      try clear hcz24_1
      try clear hcz24_2
      try clear hcz5_0
      try clear hcz5_1
      try clear hcz5_2
      try clear hfz24_0
      try clear hfz5_0
      try clear hx17_0
      try clear p17
      try clear q17
      obtain ⟨x5_3, x7_3, x38_3, x1000_3, rfl, HA, HK3, HO_5, HO_7, HI0, HK, HB⟩ := hrel
      have hl5_3 := (Kd.R_reads' HO_5.out).1
      rw [hl5_3] at HO_5
      (try simp only [hl5_3])
      (try simp only [hl5_3] at HO_7)
      cases gk with
      | zero => exact absurd HA.out (by simp [impl_flow_search.l2])
      | succ k3 =>
       have H := HA.out
       clear HA
       simp only [impl_flow_search.l2] at H
       by_cases c25 : x38_3 < x1000_2
       rotate_left
       ·rw [if_neg c25] at H
        have c25b0 : decide (x38_3 < x1000_2) = false := decide_eq_false c25
        clear c25
        by_cases c41 : 1 ≤ (x7_3.length : Int)
        rotate_left
        ·rw [if_neg c41] at H
         exact absurd H (by simp)
        rw [if_pos c41] at H
        have c41b0 := eq_true c41
        have c41b1 : decide (1 ≤ (x7_3.length : Int)) = true := decide_eq_true c41
        clear c41
        obtain ⟨y274, hy274⟩ : ∃ y_ : List Int, y_ = (x7_3.drop (1 : Int).toNat) := ⟨_, rfl⟩
        replace H : (impl_flow_search.l1 k3 x5_3 y274 x1000_3 s0_1 s0_2) = some (r1, r2) := by first | (rw [hy274]; with_reducible exact H) | (have H2_ := (Option.bind_some _ _).symm.trans H; rw [hy274]; with_reducible exact H2_) | (have H2_ := (Option.bind_some _ _).symm.trans H; with_reducible exact H2_) | with_reducible exact H | (rw [hy274]; exact H) | exact H
        have Ny274 := Aside0.mk hy274
        clear hy274
        have H' := Aside0.mk H
        clear H
        obtain ⟨Ao42, co42, eo42, _⟩ := Kd.Q_slice HO_7.out
        subst eo42
        have q43 : (1 : Int) ≤ ((x7_3.length : Int) : Int) := od_
        obtain ⟨i043, hi043, _, hsz43, _⟩ := info_parts info3
        have hcut43 := cut_from (P := Try.prog) 24 3 .i64 Try.underlying24 hi043 1 hsz43 Ao42 x7_3.length co42 1 (by omega) q43
        have hr43 := Kd.Q_drop (k := (1 : Int).toNat) HO_7.out (by omega)
        obtain ⟨A43, hA43⟩ : ∃ A1, A1 = (if co42 = (1 : Int).toNat then Ao42 else (Ao42 : Option Addr).map (·.add ((1 : Int).toNat * 1))) := ⟨_, rfl⟩
        obtain ⟨c43, hc43⟩ : ∃ c1, c1 = co42 - (1 : Int).toNat := ⟨_, rfl⟩
        have hy43 : y274.length = x7_3.length - (1 : Int).toNat := (by rw [Ny274.out, List.length_drop])
        rw [← Ny274.out] at hr43
        rw [← hy43, ← hA43, ← hc43] at hcut43
        replace hr43 : Kd.Q (Kd.int .i64) 3 wr w.heap.size (fun k_ => some k_ ≠ (.slice (some ⟨go17, 0, none⟩) x5_3.length co8 : Value).ownBlock) (.slice A43 y274.length c43) y274 := (by rw [hA43, hc43, hy43]; exact hr43)
        have HE43 : Aside0 ((Value.slice A43 y274.length c43).ownBlock = (.slice Ao42 x7_3.length co42 : Value).ownBlock) := ⟨by rw [hA43]; split <;> (cases (Ao42 : Option Addr) <;> rfl)⟩
        clear hy43 hi043 hsz43 HO_7 hA43 hc43
        have HO276 := Aside0.mk hr43
        clear hr43
        replace q43 := eq_true q43
        have n_ := Aside0.mk (Kd.R_mono (ok' := fun k_ => no_ (.slice A43 y274.length c43) k_) HO_5.out (fun k_ hk => (fun h_ => hk (h_.trans HE43.out))))
        clear HO_5
        have HO_5 := n_
        clear n_
        go_wp2
        (try simp only [← hl5_2, ← hl5_3])
        go_roundg k3
        case measure => have := HK1.out; have := HK2.out; have := HK3.out; omega
        case rel => exact ⟨(x5_3), (y274), (x1000_3), H', ⟨by have := HK1.out; have := HK2.out; have := HK3.out; omega⟩, ⟨by (try simp only [hl5_1]); (try simp only [hl5_2]); (try simp only [hl5_3]); (with_reducible repeat (first | apply Kd.R_alloc | apply Kd.R_drewN | apply Kd.R_drew)); exact HO_5.out⟩, ⟨by (try simp only [hl5_1]); (try simp only [hl5_2]); (try simp only [hl5_3]); (with_reducible repeat (first | apply Kd.Q_alloc | apply Kd.Q_drewN | apply Kd.Q_drew)); exact HO276.out⟩, ⟨by repeat (first | (with_reducible first | exact HI0.out | apply IsS109.alloc | apply IsS109.drewN | apply IsS109.drew | apply IsS109.set_0) | exact HI0.out)⟩, ⟨by repeat (first | (with_reducible first | exact HK.out | apply keepA_drewN | apply keepA_drew | apply keepA_alloc) | exact HK.out)⟩, ⟨by repeat (first | (with_reducible first | exact HB.out | apply below_alloc | apply pw_below_drewN | apply below_drew1 | refine below_set ?_ (IsS109.ge HI0.out)) | exact HB.out)⟩⟩
       rw [if_pos c25] at H
       have c25b0 : decide (x38_3 < x1000_2) = true := decide_eq_true c25
       clear c25
       by_cases c26 : 0 ≤ x38_3
       rotate_left
       ·rw [if_neg c26] at H
        exact absurd H (by simp)
       rw [if_pos c26] at H
       have c26b0 : decide (0 ≤ x38_3) = true := decide_eq_true c26
       clear c26
       by_cases c27 : x38_3 < (x5_3.length : Int)
       rotate_left
       ·rw [if_neg c27] at H
        exact absurd H (by simp)
       rw [if_pos c27] at H
       have c27b0 : decide (x38_3 < (x5_3.length : Int)) = true := decide_eq_true c27
       clear c27
       by_cases c28 : (rd x5_3 x38_3) < 0
       rotate_left
       ·rw [if_neg c28] at H
        have c28b0 : decide ((rd x5_3 x38_3) < 0) = false := decide_eq_false c28
        clear c28
        have H' := Aside0.mk H
        clear H
        have p265 : 0 ≤ (x38_3 : Int) := od_
        have q265 : x38_3 < (x5_3.length : Int) := od_
        obtain ⟨ad265, e265, hx265_0⟩ := Kd.at_int (Kd.R_reads' HO_5.out).2.2 x38_3 p265 q265
        obtain rfl : (⟨go17, 0, none⟩ : Addr) = ad265 := (by injection e265)
        (first | simp only [add_plain] at hx265_0 | simp only [add_at] at hx265_0 | simp only [Addr.add, Nat.zero_add] at hx265_0 | skip)
        replace p265 := eq_true p265
        replace q265 := eq_true q265
        go_wp2
        (try simp only [← hl5_3])
        go_roundg k3
        case measure => have := HK1.out; have := HK2.out; have := HK3.out; omega
        case rel => exact ⟨(x5_3), (x7_3), (wrap64 (x38_3 + 1)), (x1000_3), (by first | rfl | (simp; done) | (simp [*]; done)), H', ⟨by have := HK1.out; have := HK2.out; have := HK3.out; omega⟩, ⟨by (try simp only [hl5_1]); (try simp only [hl5_2]); (try simp only [hl5_3]); (with_reducible repeat (first | apply Kd.R_alloc | apply Kd.R_drewN | apply Kd.R_drew)); exact HO_5.out⟩, ⟨by (try simp only [hl5_1]); (try simp only [hl5_2]); (try simp only [hl5_3]); (with_reducible repeat (first | apply Kd.Q_alloc | apply Kd.Q_drewN | apply Kd.Q_drew)); exact HO_7.out⟩, ⟨by repeat (first | (with_reducible first | exact HI0.out | apply IsS109.alloc | apply IsS109.drewN | apply IsS109.drew | apply IsS109.set_0) | exact HI0.out)⟩, ⟨by repeat (first | (with_reducible first | exact HK.out | apply keepA_drewN | apply keepA_drew | apply keepA_alloc) | exact HK.out)⟩, ⟨by repeat (first | (with_reducible first | exact HB.out | apply below_alloc | apply pw_below_drewN | apply below_drew1 | refine below_set ?_ (IsS109.ge HI0.out)) | exact HB.out)⟩⟩
       rw [if_pos c28] at H
       have c28b0 : decide ((rd x5_3 x38_3) < 0) = true := decide_eq_true c28
       clear c28
       by_cases c29 : 0 < (x7_3.length : Int)
       rotate_left
       ·rw [if_neg c29] at H
        exact absurd H (by simp)
       rw [if_pos c29] at H
       have c29b0 : decide (0 < (x7_3.length : Int)) = true := decide_eq_true c29
       have c29b1 : decide (0 < x7_3.length) = true := decide_eq_true (by omega)
       clear c29
       replace H := Option.bind_eq_some_iff.mp H
       obtain ⟨⟨t267, t268⟩, A300, H⟩ := H
       replace H : (if t267 = true then (if x7_3.length < 17592186044416 then (impl_flow_search.l2 k3 (x5_3.set (x38_3 : Int).toNat (rd x7_3 0)) (x7_3 ++ [x38_3]) x1000_2 (wrap64 (x38_3 + 1)) t268 s0_1 s0_2) else (none)) else (impl_flow_search.l2 k3 x5_3 x7_3 x1000_2 (wrap64 (x38_3 + 1)) t268 s0_1 s0_2)) = some (r1, r2) := H
       have A30 := Aside0.mk A300
       clear A300
       by_cases c31 : t267 = true
       rotate_left
       ·replace c31 := Bool.eq_false_iff.mpr c31
        subst c31
        rw [if_neg (show ¬ (false = true) by decide)] at H
        have H' := Aside0.mk H
        clear H
        have p265 : 0 ≤ (x38_3 : Int) := od_
        have q265 : x38_3 < (x5_3.length : Int) := od_
        obtain ⟨ad265, e265, hx265_0⟩ := Kd.at_int (Kd.R_reads' HO_5.out).2.2 x38_3 p265 q265
        obtain rfl : (⟨go17, 0, none⟩ : Addr) = ad265 := (by injection e265)
        (first | simp only [add_plain] at hx265_0 | simp only [add_at] at hx265_0 | simp only [Addr.add, Nat.zero_add] at hx265_0 | skip)
        replace p265 := eq_true p265
        replace q265 := eq_true q265
        obtain ⟨Ao39, co39, eo39, _⟩ := Kd.Q_slice HO_7.out
        subst eo39
        have p266 : 0 ≤ (0 : Int) := (by omega)
        have q266 : 0 < (x7_3.length : Int) := od_
        obtain ⟨ad266, e266, hx266_0⟩ := Kd.at_int (Kd.Q_reads' HO_7.out).2.2 0 p266 q266
        cases e266
        have qi266 : (0 < x7_3.length) = True := eq_true (by omega)
        (try rw [show ((0 : Int)).toNat = 0 from rfl] at hx266_0)
        (try rw [Addr.add_zero'] at hx266_0)
        replace p266 := eq_true p266
        replace q266 := eq_true q266
        go_wp2_with (first | (go_at_call 107; (with_reducible refine (impl_flow_open.calls k3 g x1000_3 s0_1 s0_2 (rd x7_3 0) x38_3 false t268 w0 _ ?side1 ?side2 A30.out).mono ?_); (case side1 => repeat (first | (with_reducible first | exact HI0.out | apply IsS109.alloc | apply IsS109.drewN | apply IsS109.drew | apply IsS109.set_0) | exact HI0.out)); (case side2 => repeat (first | (with_reducible first | exact HB.out | apply below_alloc | apply pw_below_drewN | apply below_drew1 | refine below_set ?_ (IsS109.ge HI0.out)) | exact HB.out)); rintro e w40 ⟨rfl, hi, hb, hk⟩; replace HO_5 := Aside0.mk (Kd.R_mono (Kd.R_keep (IsS109.apart (show IsS109 w0 _ g x1000_3 s0_1 s0_2 from by repeat (first | (with_reducible first | exact HI0.out | apply IsS109.alloc | apply IsS109.drewN | apply IsS109.drew | apply IsS109.set_0) | exact HI0.out)) (ra HO_5.out) (by decide)) (hk g) (fun _ h => h.2)) (fun _ h => h.1)); replace HO_7 := Aside0.mk (Kd.Q_mono (Kd.Q_keep (IsS109.apartQ (show IsS109 w0 _ g x1000_3 s0_1 s0_2 from by repeat (first | (with_reducible first | exact HI0.out | apply IsS109.alloc | apply IsS109.drewN | apply IsS109.drew | apply IsS109.set_0) | exact HI0.out)) (by (with_reducible repeat (first | apply Kd.Q_alloc | apply Kd.Q_drewN | apply Kd.Q_drew)); exact HO_7.out) (by decide)) (hk g) (fun _ h => h.2)) (fun _ h => h.1)); replace HK := Aside0.mk (KeepAll.trans (by repeat (first | (with_reducible first | exact HK.out | apply keepA_drewN | apply keepA_drew | apply keepA_alloc) | exact HK.out)) hk (.inl rfl)); replace HB := Aside0.mk (hb); replace HI0 := Aside0.mk (hi); clear hb hk hi))
        (try simp only [← hl5_3])
        go_roundg k3
        case measure => have := HK1.out; have := HK2.out; have := HK3.out; omega
        case rel => exact ⟨(x5_3), (x7_3), (wrap64 (x38_3 + 1)), (t268), (by first | rfl | (simp; done) | (simp [*]; done)), H', ⟨by have := HK1.out; have := HK2.out; have := HK3.out; omega⟩, ⟨by (try simp only [hl5_1]); (try simp only [hl5_2]); (try simp only [hl5_3]); (with_reducible repeat (first | apply Kd.R_alloc | apply Kd.R_drewN | apply Kd.R_drew)); exact HO_5.out⟩, ⟨by (try simp only [hl5_1]); (try simp only [hl5_2]); (try simp only [hl5_3]); (with_reducible repeat (first | apply Kd.Q_alloc | apply Kd.Q_drewN | apply Kd.Q_drew)); exact HO_7.out⟩, ⟨by repeat (first | (with_reducible first | exact HI0.out | apply IsS109.alloc | apply IsS109.drewN | apply IsS109.drew | apply IsS109.set_0) | exact HI0.out)⟩, ⟨by repeat (first | (with_reducible first | exact HK.out | apply keepA_drewN | apply keepA_drew | apply keepA_alloc) | exact HK.out)⟩, ⟨by repeat (first | (with_reducible first | exact HB.out | apply below_alloc | apply pw_below_drewN | apply below_drew1 | refine below_set ?_ (IsS109.ge HI0.out)) | exact HB.out)⟩⟩
       subst c31
       rw [if_pos rfl] at H
       obtain ⟨y270, hy270⟩ : ∃ y_ : List Int, y_ = (x5_3.set (x38_3 : Int).toNat (rd x7_3 0)) := ⟨_, rfl⟩
       replace H : (if x7_3.length < 17592186044416 then (impl_flow_search.l2 k3 y270 (x7_3 ++ [x38_3]) x1000_2 (wrap64 (x38_3 + 1)) t268 s0_1 s0_2) else (none)) = some (r1, r2) := by first | (rw [hy270]; with_reducible exact H) | (have H2_ := (Option.bind_some _ _).symm.trans H; rw [hy270]; with_reducible exact H2_) | (have H2_ := (Option.bind_some _ _).symm.trans H; with_reducible exact H2_) | with_reducible exact H | (rw [hy270]; exact H) | exact H
       have Ny270 := Aside0.mk hy270
       clear hy270
       by_cases c33 : x7_3.length < 17592186044416
       rotate_left
       ·rw [if_neg c33] at H
        exact absurd H (by simp)
       rw [if_pos c33] at H
       have LMc33 := Aside0.mk c33
       clear c33
       obtain ⟨y271, hy271⟩ : ∃ y_ : List Int, y_ = (x7_3 ++ [x38_3]) := ⟨_, rfl⟩
       replace H : (impl_flow_search.l2 k3 y270 y271 x1000_2 (wrap64 (x38_3 + 1)) t268 s0_1 s0_2) = some (r1, r2) := by first | (rw [hy271]; with_reducible exact H) | (have H2_ := (Option.bind_some _ _).symm.trans H; rw [hy271]; with_reducible exact H2_) | (have H2_ := (Option.bind_some _ _).symm.trans H; with_reducible exact H2_) | with_reducible exact H | (rw [hy271]; exact H) | exact H
       have Ny271 := Aside0.mk hy271
       clear hy271
       have H' := Aside0.mk H
       clear H
       have p265 : 0 ≤ (x38_3 : Int) := od_
       have q265 : x38_3 < (x5_3.length : Int) := od_
       obtain ⟨ad265, e265, hx265_0⟩ := Kd.at_int (Kd.R_reads' HO_5.out).2.2 x38_3 p265 q265
       obtain rfl : (⟨go17, 0, none⟩ : Addr) = ad265 := (by injection e265)
       (first | simp only [add_plain] at hx265_0 | simp only [add_at] at hx265_0 | simp only [Addr.add, Nat.zero_add] at hx265_0 | skip)
       replace p265 := eq_true p265
       replace q265 := eq_true q265
       obtain ⟨Ao34, co34, eo34, _⟩ := Kd.Q_slice HO_7.out
       subst eo34
       have p266 : 0 ≤ (0 : Int) := (by omega)
       have q266 : 0 < (x7_3.length : Int) := od_
       obtain ⟨ad266, e266, hx266_0⟩ := Kd.at_int (Kd.Q_reads' HO_7.out).2.2 0 p266 q266
       cases e266
       have qi266 : (0 < x7_3.length) = True := eq_true (by omega)
       (try rw [show ((0 : Int)).toNat = 0 from rfl] at hx266_0)
       (try rw [Addr.add_zero'] at hx266_0)
       replace p266 := eq_true p266
       replace q266 := eq_true q266
       go_wp2_with (first | (go_at_call 107; (with_reducible refine (impl_flow_open.calls k3 g x1000_3 s0_1 s0_2 (rd x7_3 0) x38_3 true t268 w0 _ ?side1 ?side2 A30.out).mono ?_); (case side1 => repeat (first | (with_reducible first | exact HI0.out | apply IsS109.alloc | apply IsS109.drewN | apply IsS109.drew | apply IsS109.set_0) | exact HI0.out)); (case side2 => repeat (first | (with_reducible first | exact HB.out | apply below_alloc | apply pw_below_drewN | apply below_drew1 | refine below_set ?_ (IsS109.ge HI0.out)) | exact HB.out)); rintro e w35 ⟨rfl, hi, hb, hk⟩; replace HO_5 := Aside0.mk (Kd.R_mono (Kd.R_keep (IsS109.apart (show IsS109 w0 _ g x1000_3 s0_1 s0_2 from by repeat (first | (with_reducible first | exact HI0.out | apply IsS109.alloc | apply IsS109.drewN | apply IsS109.drew | apply IsS109.set_0) | exact HI0.out)) (ra HO_5.out) (by decide)) (hk g) (fun _ h => h.2)) (fun _ h => h.1)); replace HO_7 := Aside0.mk (Kd.Q_mono (Kd.Q_keep (IsS109.apartQ (show IsS109 w0 _ g x1000_3 s0_1 s0_2 from by repeat (first | (with_reducible first | exact HI0.out | apply IsS109.alloc | apply IsS109.drewN | apply IsS109.drew | apply IsS109.set_0) | exact HI0.out)) (by (with_reducible repeat (first | apply Kd.Q_alloc | apply Kd.Q_drewN | apply Kd.Q_drew)); exact HO_7.out) (by decide)) (hk g) (fun _ h => h.2)) (fun _ h => h.1)); replace HK := Aside0.mk (KeepAll.trans (by repeat (first | (with_reducible first | exact HK.out | apply keepA_drewN | apply keepA_drew | apply keepA_alloc) | exact HK.out)) hk (.inl rfl)); replace HB := Aside0.mk (hb); replace HI0 := Aside0.mk (hi); clear hb hk hi; have p269 : 0 ≤ (0 : Int) := (by omega); have q269 : 0 < (x7_3.length : Int) := od_; obtain ⟨ad269, e269, hx269_0⟩ := Kd.at_int (Kd.Q_reads' HO_7.out).2.2 0 p269 q269; obtain rfl : ad266 = ad269 := (by injection e269); have qi269 : (0 < x7_3.length) = True := eq_true (by omega); (try rw [show ((0 : Int)).toNat = 0 from rfl] at hx269_0); (try rw [Addr.add_zero'] at hx269_0); replace p269 := eq_true p269; replace q269 := eq_true q269; have p32 : 0 ≤ (x38_3 : Int) := od_; have q32 : (x38_3 : Int) < ((x5_3.length : Int) : Int) := od_; obtain ⟨hx32_0, hf32_0⟩ := Kd.R_celln 0 HO_5.out (x38_3 : Int) p32 q32; replace p32 := eq_true p32; replace q32 := eq_true q32; obtain ⟨hy36_, hz36_⟩ := Kd.R_celln 0 HO_5.out (x38_3 : Int) (od_) (od_); have HP36 := Kd.R_putg HO_5.out (x38_3 : Int) (rd x7_3 0)) | ((with_reducible refine gate_store (t := 3) (p := 59) rfl ?_); refine store_event (t := 3) (p := 59) (v := ?vo_w37) (w1 := (w35.setCell ⟨go17, (x38_3 : Int).toNat, none⟩ (.int .i64 (rd x7_3 0)))) ?hg ?ho ?hn ?hr ?_; (case ho => rfl); (case hg => rfl); (case hn => rfl); (case hr => first | (go_simp; done) | (go_simp; rfl)); intro w37 hw; have hg : w35.grownBy w37 (some go17) := (by rw [hw]; exact HP36.2); have hp_ : Kd.R (Kd.int .i64) 3 w37 w.heap.size (fun k_ => some k_ ≠ (.slice (some ad266) x7_3.length co34 : Value).ownBlock) (.slice (some ⟨go17, 0, none⟩) x5_3.length co8) y270 := (by rw [hw, Ny270.out]; exact HP36.1); clear HP36; replace HO_7 := Aside0.mk (Kd.Q_after (v := (.slice (some ⟨go17, 0, none⟩) x5_3.length co8)) (v1 := (.slice (some ⟨go17, 0, none⟩) x5_3.length co8)) (ok := (fun _ => True)) (by (with_reducible repeat (first | apply Kd.Q_alloc | apply Kd.Q_drewN | apply Kd.Q_drew)); exact Kd.Q_mono HO_7.out (fun _ hk => ⟨trivial, hk⟩)) hg (.inl rfl)); replace HI0 := Aside0.mk (IsS109.grown (by repeat (first | (with_reducible first | exact HI0.out | apply IsS109.alloc | apply IsS109.drewN | apply IsS109.drew | apply IsS109.set_0) | exact HI0.out)) hg (IsS109.own_ne HI0.out HO_5.out (by decide))); replace HB := Aside0.mk ((by rw [hw]; exact below_set (HB.out) (Nat.le_trans HL.out GB17.out) : Below w0.heap.size w0 w37)); replace HK := Aside0.mk (KeepAll.trans (by repeat (first | (with_reducible first | exact HK.out | apply keepA_drewN | apply keepA_drew | apply keepA_alloc) | exact HK.out)) (KeepAll.of_grown hg g) (Kd.R_base2 HO_5.out)); replace HO_5 := Aside0.mk (hp_); clear hg hw hp_) | ((with_reducible refine gate_builtin (b := .append) (xs := #[.tmp 60, .tmp 62]) rfl ?_); at_builtin; refine Kd.Q_append (Kd.int .i64) w.heap.size rfl (.tmp 60) (.tmp 62) 24 3 (.int .i64 0) 8 rfl Try.underlying24 info3 rfl (by decide) (by omega) (.slice (some ad266) x7_3.length co34) x7_3 x38_3 [.int .i64 x38_3] (fun k_ => some k_ ≠ (.slice (some ⟨go17, 0, none⟩) x5_3.length co8 : Value).ownBlock) (fun _ => False) rfl rfl ?aP (fun _ hk => hk.elim) ?aF ?aO (Below.refl _ _) ?aS ?aL ?_; (case aP => exact rfl); (case aF => exact (fun k_ hk => Kd.fresh' (rl_ HO_5) k_ hk)); (case aO => exact (by (with_reducible repeat (first | apply Kd.Q_alloc | apply Kd.Q_drewN | apply Kd.Q_drew)); exact Kd.Q_mono HO_7.out (fun _ hk => hk.2))); (case aS => exact (keepA_size (w := w) (g := g) (row := none) (by repeat (first | (with_reducible first | exact HK.out | apply keepA_drewN | apply keepA_drew | apply keepA_alloc) | exact HK.out)))); (case aL => have := LMc33.out; omega); intro v272 w38 ho hb hg hat; rw [← Ny271.out] at ho; have HO273 := Aside0.mk (ho); replace HO_5 := Aside0.mk (Kd.R_after (ok := (fun _ => True)) (rm_ HO_5 (fun _ hk => ⟨trivial, hk⟩)).out hg hat); replace HB := Aside0.mk (below_weaken (by repeat (first | (with_reducible first | exact HB.out | apply below_alloc | apply pw_below_drewN | apply below_drew1 | refine below_set ?_ (IsS109.ge HI0.out)) | exact HB.out)) HL.out hb); replace HI0 := Aside0.mk (IsS109.grown (by repeat (first | (with_reducible first | exact HI0.out | apply IsS109.alloc | apply IsS109.drewN | apply IsS109.drew | apply IsS109.set_0) | exact HI0.out)) hg (IsS109.own_neQ HI0.out HO_7.out (by decide))); replace HK := Aside0.mk (KeepAll.trans (by repeat (first | (with_reducible first | exact HK.out | apply keepA_drewN | apply keepA_drew | apply keepA_alloc) | exact HK.out)) (KeepAll.of_grown hg g) (Kd.Q_base2 HO_7.out)); clear HO_7; clear ho hb hg hat))
       (try simp only [← hl5_3])
       go_roundg k3
       case measure => have := HK1.out; have := HK2.out; have := HK3.out; omega
       case rel => exact ⟨(y270), (y271), (wrap64 (x38_3 + 1)), (t268), (by first | rfl | (simp; done) | (simp [*]; done)), H', ⟨by have := HK1.out; have := HK2.out; have := HK3.out; omega⟩, ⟨by (try simp only [hl5_1]); (try simp only [hl5_2]); (try simp only [hl5_3]); (with_reducible repeat (first | apply Kd.R_alloc | apply Kd.R_drewN | apply Kd.R_drew)); exact Kd.R_mono HO_5.out (fun _ hk => hk.2)⟩, ⟨by (try simp only [hl5_1]); (try simp only [hl5_2]); (try simp only [hl5_3]); (with_reducible repeat (first | apply Kd.Q_alloc | apply Kd.Q_drewN | apply Kd.Q_drew)); exact HO273.out⟩, ⟨by repeat (first | (with_reducible first | exact HI0.out | apply IsS109.alloc | apply IsS109.drewN | apply IsS109.drew | apply IsS109.set_0) | exact HI0.out)⟩, ⟨by repeat (first | (with_reducible first | exact HK.out | apply keepA_drewN | apply keepA_drew | apply keepA_alloc) | exact HK.out)⟩, ⟨by repeat (first | (with_reducible first | exact HB.out | apply below_alloc | apply pw_below_drewN | apply below_drew1 | refine below_set ?_ (IsS109.ge HI0.out)) | exact HB.out)⟩⟩

def IsF109 (wb w0 W : World) (g : Nat) (f0 : Int) (f1 : List (S47)) (A2 : Option Addr) (c2 : Nat) (f2 : List Int) : Prop := ∃ A1 c1, W.heap[g]? = some (.cells #[.int .i64 f0, .slice A1 f1.length c1, .slice A2 f2.length c2] 109 (0, 0)) ∧ w0.heap.size ≤ g ∧ Kd.C k47 wb A1 f1.length f1
section
variable {wb w0 W : World} {g : Nat} {f0 : Int} {f1 : List (S47)} {A2 : Option Addr} {c2 : Nat} {f2 : List Int} {ok : Nat → Prop}
theorem IsF109.is (h : IsF109 wb w0 W g f0 f1 A2 c2 f2) (hb : Below wb.heap.size wb w0) (ho : Kd.R (Kd.int .i64) 3 w0 wb.heap.size ok (.slice A2 f2.length c2) f2) : IsS109 w0 W g f0 f1 f2 := by
  obtain ⟨A1, c1, h1, h2, h3⟩ := h
  exact ⟨A1, c1, A2, c2, h1, h2, Kd.C_below h3 hb, (Kd.R_reads' ho).2.2⟩
theorem IsF109.after (h : IsF109 wb w0 W g f0 f1 A2 c2 f2) {W' : World} {r : Int} (hi : IsS109 w0 W' g r f1 f2) (hk : KeepAll W W' g none) : IsF109 wb w0 W' g r f1 A2 c2 f2 := by
  obtain ⟨A1, c1, h1, h2, h3⟩ := h
  obtain ⟨B1, d1, B2, d2, k1, _⟩ := hi
  have e := hk.block (blk_lt h1)
  have e2 : f0 = r := by
    rw [h1, k1] at e
    simp at e
    exact e.1.symm
  subst e2
  exact ⟨A1, c1, e.trans h1, h2, h3⟩
theorem IsF109.make {A1 : Option Addr} {c1 : Nat} (hb : W.heap[g]? = some (.cells #[.int .i64 f0, .slice A1 f1.length c1, .slice A2 f2.length c2] 109 (0, 0))) (hg : g = w0.heap.size) (hr : Kd.C k47 wb A1 f1.length f1) : IsF109 wb w0 W g f0 f1 A2 c2 f2 := ⟨A1, c1, hb, Nat.le_of_eq hg.symm, hr⟩
theorem IsF109.lt (h : IsF109 wb w0 W g f0 f1 A2 c2 f2) : g < W.heap.size := by
  obtain ⟨A1, c1, h1, _⟩ := h
  exact blk_lt h1
theorem World.size_set_ (w : World) (p : Addr) (u : Value) : (w.setCell p u).heap.size = w.heap.size := by simp [World.setCell]
theorem IsF109.drewN (h : IsF109 wb w0 W g f0 f1 A2 c2 f2) (m : Nat) : IsF109 wb w0 (W.drewN m) g f0 f1 A2 c2 f2 := h
theorem IsF109.drew (h : IsF109 wb w0 W g f0 f1 A2 c2 f2) : IsF109 wb w0 W.drew g f0 f1 A2 c2 f2 := h
theorem Below.both {B : Nat} {w w' : World} (h : Below B w w') (p : Addr) (u : Value) : Below B (w.setCell p u) (w'.setCell p u) :=
  ⟨h.os, h.tape, h.output, by simpa [World.setCell] using h.size, fun k hk => by simp only [World.setCell, Array.getElem?_modify, h.block k hk]⟩
theorem IsF109.put (h : IsF109 wb w0 W g f0 f1 A2 c2 f2) (p : Addr) (hp : p.block ≠ g) (u : Value) (i : Nat) (x : Int) : IsF109 wb (w0.setCell p u) (W.setCell p u) g f0 f1 A2 c2 (f2.set i x) := by
  obtain ⟨A1, c1, h1, h2, h3⟩ := h
  exact ⟨A1, c1, by rw [List.length_set]; exact (Below.heap_setCell W p u g (fun e => hp e.symm)).trans h1, by simpa [World.setCell] using h2, h3⟩
end
mutual
def impl_flow_fill.l0 : Nat → Int → Int → Int → List (S47) → List Int → Option (Int × List Int)
 | 0, _, _, _, _, _ => none
 | k + 1, x1, x2, x1000, x1001, x1002 => (impl_flow_search.f k x1000 x1001 x1002 x1).bind fun bt277 => (if 0 ≤ x2 then (if x2 < (bt277.1.length : Int) then (if (rd bt277.1 x2) < 0 then (some (bt277.2, x1002)) else (impl_flow_fill.l1 k x1 x2 bt277.1 x2 bt277.2 x1001 x1002)) else (none)) else (none))
def impl_flow_fill.l1 : Nat → Int → Int → List Int → Int → Int → List (S47) → List Int → Option (Int × List Int)
 | 0, _, _, _, _, _, _, _ => none
 | k + 1, x1, x2, x6, x7, x1000, x1001, x1002 => if x7 = x1 then (impl_flow_fill.l0 k x1 x2 x1000 x1001 x1002) else (if 0 ≤ x7 then (if x7 < (x6.length : Int) then ((impl_flow_edge.f k x1000 x1001 x1002 (rd x6 x7) x7).bind fun bt283 => (if 0 ≤ bt283.1 then (if bt283.1 < (x1002.length : Int) then (impl_flow_fill.l1 k x1 x2 x6 (rd x6 x7) bt283.2.2 x1001 (x1002.set bt283.1.toNat (wrap64 ((rd x1002 bt283.1) + bt283.2.1)))) else (none)) else (none))) else (none)) else (none))
end
def impl_flow_fill.f (k : Nat) (s0_0 : Int) (s0_1 : List (S47)) (s0_2 : List Int) (a1 : Int) (a2 : Int) : Option (Int × List Int) := impl_flow_fill.l0 k a1 a2 s0_0 s0_1 s0_2
theorem impl_flow_fill.mono_l : ∀ k, (∀ y0 y1 y2 y3 y4, LeO (impl_flow_fill.l0 k y0 y1 y2 y3 y4) (impl_flow_fill.l0 (k + 1) y0 y1 y2 y3 y4)) ∧ (∀ y0 y1 y2 y3 y4 y5 y6, LeO (impl_flow_fill.l1 k y0 y1 y2 y3 y4 y5 y6) (impl_flow_fill.l1 (k + 1) y0 y1 y2 y3 y4 y5 y6))
 | 0 => ⟨fun _ _ _ _ _ r h => by simp [impl_flow_fill.l0] at h, fun _ _ _ _ _ _ _ r h => by simp [impl_flow_fill.l1] at h⟩
 | k + 1 => by
  obtain ⟨ih0, ih1⟩ := impl_flow_fill.mono_l k
  refine ⟨?_, ?_⟩
  ·intro y0 y1 y2 y3 y4
   unfold impl_flow_fill.l0
   repeat' first
   | (with_reducible exact ih0 _ _ _ _ _)
   | (with_reducible exact ih1 _ _ _ _ _ _ _)
   | (with_reducible exact impl_flow_edge.mono _ _ _ _ _ _)
   | (with_reducible exact impl_flow_search.mono _ _ _ _ _)
   | with_reducible first | exact LeO.refl _ | exact LeO.none _ | refine LeO.ite ?_ ?_ | refine LeO.bind ?_ fun _ => ?_
  ·intro y0 y1 y2 y3 y4 y5 y6
   unfold impl_flow_fill.l1
   repeat' first
   | (with_reducible exact ih0 _ _ _ _ _)
   | (with_reducible exact ih1 _ _ _ _ _ _ _)
   | (with_reducible exact impl_flow_edge.mono _ _ _ _ _ _)
   | (with_reducible exact impl_flow_search.mono _ _ _ _ _)
   | with_reducible first | exact LeO.refl _ | exact LeO.none _ | refine LeO.ite ?_ ?_ | refine LeO.bind ?_ fun _ => ?_
theorem impl_flow_fill.mono : ∀ a0 a1 a2 a3 a4 k, LeO (impl_flow_fill.f k a0 a1 a2 a3 a4) (impl_flow_fill.f (k + 1) a0 a1 a2 a3 a4) := by
 intro a0 a1 a2 a3 a4 k
 obtain ⟨ih0, ih1⟩ := impl_flow_fill.mono_l k
 unfold impl_flow_fill.f
 repeat' first
   | (with_reducible exact ih0 _ _ _ _ _)
   | (with_reducible exact ih1 _ _ _ _ _ _ _)
   | (with_reducible exact impl_flow_edge.mono _ _ _ _ _ _)
   | (with_reducible exact impl_flow_search.mono _ _ _ _ _)
   | with_reducible first | exact LeO.refl _ | exact LeO.none _ | refine LeO.ite ?_ ?_ | refine LeO.bind ?_ fun _ => ?_
set_option maxHeartbeats 8000000 in
set_option maxRecDepth 100000 in
theorem impl_flow_fill.calls (k : Nat) (g : Nat) (s0_0 : Int) (s0_1 : List (S47)) (s0_2 : List Int) (a1 : Int) (a2 : Int) (r1 : Int) (r2 : List Int) (A2 : Option Addr) (c2 : Nat) (ok : Nat → Prop) (wb wz w : World) (hI : IsF109 wb wz w g s0_0 s0_1 A2 c2 s0_2) (hO : Kd.R (Kd.int .i64) 3 wz wb.heap.size ok (.slice A2 s0_2.length c2) s0_2) (hbb : Below wb.heap.size wb wz) (hB : Below wz.heap.size wz w) (h : impl_flow_fill.f k s0_0 s0_1 s0_2 a1 a2 = some (r1, r2)) :
  Calls Try.prog 106 #[.pointer (some ⟨g, 0, none⟩), .int .i64 a1, .int .i64 a2] w fun e w' => e = .returned (.tuple #[]) ∧ ∃ w1, IsF109 wb w1 w' g r1 s0_1 A2 c2 r2 ∧ Kd.R (Kd.int .i64) 3 w1 wb.heap.size ok (.slice A2 r2.length c2) r2 ∧ Below wb.heap.size wb w1 ∧ Below w1.heap.size w1 w' := by
 have HI0 := Aside0.mk hI
 have HU := Aside0.mk hO
 have HD := Aside0.mk hbb
 have HB := Aside0.mk hB
 clear hI hO hbb hB
 have H : (impl_flow_fill.l0 k a1 a2 s0_0 s0_1 s0_2) = some (r1, r2) := h
 clear h
 have H' := Aside0.mk H
 clear H
 go_enter Try.func106, Try.ntmps106
 go_wp2
 go_loopg [] k (fun kq w' => ∃ (x1000_1 : Int) (x1002_1 : List Int) (w0 : World), Aside0 (impl_flow_fill.l0 kq a1 a2 x1000_1 s0_1 x1002_1 = some (r1, r2)) ∧ Aside0 (kq ≤ k) ∧ Aside0 (IsF109 wb w0 w' g x1000_1 s0_1 A2 c2 x1002_1) ∧ Aside0 (Kd.R (Kd.int .i64) 3 w0 wb.heap.size ok (.slice A2 x1002_1.length c2) x1002_1) ∧ Aside0 (Below wb.heap.size wb w0) ∧ Aside0 (Below w0.heap.size w0 w'))
 case atStart => exact ⟨s0_0, s0_2, wz, H', ⟨Nat.le_refl _⟩, ⟨(by repeat (first | (with_reducible first | exact HI0.out | apply IsF109.drewN | apply IsF109.drew) | exact HI0.out))⟩, HU, HD, ⟨(by repeat (first | (with_reducible first | exact HB.out | apply below_alloc | apply pw_below_drewN | apply below_drew1) | exact HB.out))⟩⟩
 case round =>
  clear H'
  obtain ⟨x1000_1, x1002_1, w0, HA, HK1, HI0, HU, HD, HB⟩ := hrel
  cases gk with
  | zero => exact absurd HA.out (by simp [impl_flow_fill.l0])
  | succ k1 =>
   have H := HA.out
   clear HA
   simp only [impl_flow_fill.l0] at H
   replace H := Option.bind_eq_some_iff.mp H
   obtain ⟨⟨t277, t280⟩, A40, H⟩ := H
   replace H : (if 0 ≤ a2 then (if a2 < (t277.length : Int) then (if (rd t277 a2) < 0 then (some (t280, x1002_1)) else (impl_flow_fill.l1 k1 a1 a2 t277 a2 t280 s0_1 x1002_1)) else (none)) else (none)) = some (r1, r2) := H
   have A4 := Aside0.mk A40
   clear A40
   by_cases c5 : 0 ≤ a2
   rotate_left
   ·rw [if_neg c5] at H
    exact absurd H (by simp)
   rw [if_pos c5] at H
   have c5b0 : decide (0 ≤ a2) = true := decide_eq_true c5
   clear c5
   by_cases c6 : a2 < (t277.length : Int)
   rotate_left
   ·rw [if_neg c6] at H
    exact absurd H (by simp)
   rw [if_pos c6] at H
   have c6b0 : decide (a2 < (t277.length : Int)) = true := decide_eq_true c6
   clear c6
   by_cases c7 : (rd t277 a2) < 0
   ·rw [if_pos c7] at H
    have c7b0 : decide ((rd t277 a2) < 0) = true := decide_eq_true c7
    clear c7
    simp only [Option.some.injEq, Prod.mk.injEq] at H
    obtain ⟨rfl, rfl⟩ := H
    go_wp2_with (first | ((with_reducible refine gate_dst (N := 12) rfl ?_); refine goesL_ (some 12) rfl rfl Try.func63 (by kernel_rfl) rfl #[.pointer (some ⟨g, 0, none⟩), .int .i64 a1] rfl tm_ ?_; (with_reducible refine (impl_flow_search.calls k1 g x1000_1 s0_1 x1002_1 a1 t277 t280 w0 _ ?side1 ?side2 A4.out).mono ?_); (case side1 => exact IsF109.is (by repeat (first | (with_reducible first | exact HI0.out | apply IsF109.drewN | apply IsF109.drew) | exact HI0.out)) HD.out HU.out); (case side2 => repeat (first | (with_reducible first | exact HB.out | apply below_alloc | apply pw_below_drewN | apply below_drew1) | exact HB.out)); rintro e w8 ⟨v278, rfl, ho0, hi, hb, hk⟩; refine ⟨_, rfl, ?_⟩; have HO279 := Aside0.mk (Kd.R_lower (Kd.R_mono (ok' := fun k_ => g < k_) (Kd.R_bound ho0) (fun k hk_ => Nat.lt_of_lt_of_le (IsF109.lt (by repeat (first | (with_reducible first | exact HI0.out | apply IsF109.drewN | apply IsF109.drew) | exact HI0.out))) hk_.2.1)) (Nat.le_of_lt (IsF109.lt (by repeat (first | (with_reducible first | exact HI0.out | apply IsF109.drewN | apply IsF109.drew) | exact HI0.out))))); replace HI0 := Aside0.mk (IsF109.after (by repeat (first | (with_reducible first | exact HI0.out | apply IsF109.drewN | apply IsF109.drew) | exact HI0.out)) hi hk); replace HB := Aside0.mk (hb); clear hb hk hi ho0; obtain ⟨Ao9, co9, eo9⟩ := Kd.R_slice HO279.out; subst eo9; have p281 : 0 ≤ (a2 : Int) := od_; have q281 : a2 < (t277.length : Int) := od_; obtain ⟨ad281, e281, hx281_0⟩ := Kd.at_int (Kd.R_reads' HO279.out).2.2 a2 p281 q281; cases e281; replace p281 := eq_true p281; replace q281 := eq_true q281))
    first | go_end0 | ((try simp only [Exit.inBlock, Exit.then]); refine bodyPost_ret (results_none rfl _ _ _) rfl ?_)
    exact ⟨rt_, w0, (by repeat (first | (with_reducible first | exact HI0.out | apply IsF109.drewN | apply IsF109.drew) | exact HI0.out)), HU.out, HD.out, (by repeat (first | (with_reducible first | exact HB.out | apply below_alloc | apply pw_below_drewN | apply below_drew1) | exact HB.out))⟩
   rw [if_neg c7] at H
   have c7b0 : decide ((rd t277 a2) < 0) = false := decide_eq_false c7
   clear c7
   have H' := Aside0.mk H
   clear H
   go_wp2_with (first | ((with_reducible refine gate_dst (N := 12) rfl ?_); refine goesL_ (some 12) rfl rfl Try.func63 (by kernel_rfl) rfl #[.pointer (some ⟨g, 0, none⟩), .int .i64 a1] rfl tm_ ?_; (with_reducible refine (impl_flow_search.calls k1 g x1000_1 s0_1 x1002_1 a1 t277 t280 w0 _ ?side1 ?side2 A4.out).mono ?_); (case side1 => exact IsF109.is (by repeat (first | (with_reducible first | exact HI0.out | apply IsF109.drewN | apply IsF109.drew) | exact HI0.out)) HD.out HU.out); (case side2 => repeat (first | (with_reducible first | exact HB.out | apply below_alloc | apply pw_below_drewN | apply below_drew1) | exact HB.out)); rintro e w10 ⟨v278, rfl, ho0, hi, hb, hk⟩; refine ⟨_, rfl, ?_⟩; have HO279 := Aside0.mk (Kd.R_lower (Kd.R_mono (ok' := fun k_ => g < k_) (Kd.R_bound ho0) (fun k hk_ => Nat.lt_of_lt_of_le (IsF109.lt (by repeat (first | (with_reducible first | exact HI0.out | apply IsF109.drewN | apply IsF109.drew) | exact HI0.out))) hk_.2.1)) (Nat.le_of_lt (IsF109.lt (by repeat (first | (with_reducible first | exact HI0.out | apply IsF109.drewN | apply IsF109.drew) | exact HI0.out))))); replace HI0 := Aside0.mk (IsF109.after (by repeat (first | (with_reducible first | exact HI0.out | apply IsF109.drewN | apply IsF109.drew) | exact HI0.out)) hi hk); replace HB := Aside0.mk (hb); clear hb hk hi ho0; obtain ⟨Ao9, co11, eo9⟩ := Kd.R_slice HO279.out; subst eo9; have p281 : 0 ≤ (a2 : Int) := od_; have q281 : a2 < (t277.length : Int) := od_; obtain ⟨ad281, e281, hx281_0⟩ := Kd.at_int (Kd.R_reads' HO279.out).2.2 a2 p281 q281; cases e281; replace p281 := eq_true p281; replace q281 := eq_true q281))
   go_loopg [7] k1 (fun kq v7 w' => ∃ (x7_2 : Int) (x1000_2 : Int) (x1002_2 : List Int) (w0 : World), v7 = .int .i64 x7_2 ∧ Aside0 (impl_flow_fill.l1 kq a1 a2 t277 x7_2 x1000_2 s0_1 x1002_2 = some (r1, r2)) ∧ Aside0 (kq ≤ k1) ∧ Aside0 (Kd.R (Kd.int .i64) 3 w' g (fun k_ => g < k_) (.slice (some ad281) t277.length co11) t277) ∧ Aside0 (IsF109 wb w0 w' g x1000_2 s0_1 A2 c2 x1002_2) ∧ Aside0 (Kd.R (Kd.int .i64) 3 w0 wb.heap.size ok (.slice A2 x1002_2.length c2) x1002_2) ∧ Aside0 (Below wb.heap.size wb w0) ∧ Aside0 (Below w0.heap.size w0 w'))
   case atStart => exact ⟨(a2), (t280), x1002_1, w0, (by first | rfl | (simp; done) | (simp [*]; done)), H', ⟨Nat.le_refl _⟩, ⟨ra HO279.out⟩, ⟨(by repeat (first | (with_reducible first | exact HI0.out | apply IsF109.drewN | apply IsF109.drew) | exact HI0.out))⟩, HU, HD, ⟨(by repeat (first | (with_reducible first | exact HB.out | apply below_alloc | apply pw_below_drewN | apply below_drew1) | exact HB.out))⟩⟩
   case round =>
    clear H'
    try clear c5b0
    try clear c6b0
    try clear c7b0
    try clear hx281_0
    try clear p281
    try clear q281
    try clear HI0
    try clear HU
    try clear HD
    try clear HB
    obtain ⟨x7_2, x1000_2, x1002_2, w0, rfl, HA, HK2, HO_6, HI0, HU, HD, HB⟩ := hrel
    cases gk with
    | zero => exact absurd HA.out (by simp [impl_flow_fill.l1])
    | succ k2 =>
     have H := HA.out
     clear HA
     simp only [impl_flow_fill.l1] at H
     by_cases c12 : x7_2 = a1
     ·rw [if_pos c12] at H
      have c12b0 : (x7_2 == a1) = true := beq_iff_eq.mpr c12
      have c12b1 : (x7_2 != a1) = false := bne_eq_false_iff_eq.mpr c12
      clear c12
      have H' := Aside0.mk H
      clear H
      go_wp2
      go_roundg k2
      case measure => have := HK1.out; have := HK2.out; omega
      case rel => exact ⟨(x1000_2), x1002_2, w0, H', ⟨by have := HK1.out; have := HK2.out; omega⟩, ⟨(by repeat (first | (with_reducible first | exact HI0.out | apply IsF109.drewN | apply IsF109.drew) | exact HI0.out))⟩, HU, HD, ⟨(by repeat (first | (with_reducible first | exact HB.out | apply below_alloc | apply pw_below_drewN | apply below_drew1) | exact HB.out))⟩⟩
     rw [if_neg c12] at H
     have c12b0 : (x7_2 == a1) = false := beq_eq_false_iff_ne.mpr c12
     have c12b1 : (x7_2 != a1) = true := bne_iff_ne.mpr c12
     by_cases c13 : 0 ≤ x7_2
     rotate_left
     ·rw [if_neg c13] at H
      exact absurd H (by simp)
     rw [if_pos c13] at H
     have c13b0 : decide (0 ≤ x7_2) = true := decide_eq_true c13
     clear c13
     by_cases c14 : x7_2 < (t277.length : Int)
     rotate_left
     ·rw [if_neg c14] at H
      exact absurd H (by simp)
     rw [if_pos c14] at H
     have c14b0 : decide (x7_2 < (t277.length : Int)) = true := decide_eq_true c14
     clear c14
     replace H := Option.bind_eq_some_iff.mp H
     obtain ⟨⟨t283, t284, t285⟩, A150, H⟩ := H
     replace H : (if 0 ≤ t283 then (if t283 < (x1002_2.length : Int) then (impl_flow_fill.l1 k2 a1 a2 t277 (rd t277 x7_2) t285 s0_1 (x1002_2.set t283.toNat (wrap64 ((rd x1002_2 t283) + t284)))) else (none)) else (none)) = some (r1, r2) := H
     have A15 := Aside0.mk A150
     clear A150
     by_cases c16 : 0 ≤ t283
     rotate_left
     ·rw [if_neg c16] at H
      exact absurd H (by simp)
     rw [if_pos c16] at H
     have c16b0 : decide (0 ≤ t283) = true := decide_eq_true c16
     clear c16
     by_cases c17 : t283 < (x1002_2.length : Int)
     rotate_left
     ·rw [if_neg c17] at H
      exact absurd H (by simp)
     rw [if_pos c17] at H
     have c17b0 : decide (t283 < (x1002_2.length : Int)) = true := decide_eq_true c17
     clear c17
     have H' := Aside0.mk H
     clear H
     have p282 : 0 ≤ (x7_2 : Int) := od_
     have q282 : x7_2 < (t277.length : Int) := od_
     obtain ⟨ad282, e282, hx282_0⟩ := Kd.at_int (Kd.R_reads' HO_6.out).2.2 x7_2 p282 q282
     obtain rfl : ad281 = ad282 := (by injection e282)
     replace p282 := eq_true p282
     replace q282 := eq_true q282
     have pz12 : 0 ≤ (t283 : Int) := od_
     have qz12 : (t283 : Int) < (x1002_2.length : Int) := od_
     obtain ⟨go12, co12, eo12, gb12, gl12, cl12, HG12⟩ := Kd.R_form HU.out (by omega)
     clear pz12 qz12
     (first | cases eo12 | (injection eo12 with ea_ en_ ec_; (first | subst ea_ | (injection ea_ with ea_; subst ea_)); subst ec_; clear en_))
     have GB12 := Aside0.mk gb12
     have GL12 := Aside0.mk gl12
     clear gb12 gl12 HG12
     go_wp2_with (first | ((with_reducible refine gate_dst (N := 33) rfl ?_); refine goesL_ (some 33) rfl rfl Try.func121 (by kernel_rfl) rfl #[.pointer (some ⟨g, 0, none⟩), .int .i64 (rd t277 x7_2), .int .i64 x7_2] rfl tm_ ?_; (with_reducible refine (impl_flow_edge.calls k2 g x1000_2 s0_1 x1002_2 (rd t277 x7_2) x7_2 t283 t284 t285 w0 _ ?side1 ?side2 A15.out).mono ?_); (case side1 => exact IsF109.is (by repeat (first | (with_reducible first | exact HI0.out | apply IsF109.drewN | apply IsF109.drew) | exact HI0.out)) HD.out HU.out); (case side2 => repeat (first | (with_reducible first | exact HB.out | apply below_alloc | apply pw_below_drewN | apply below_drew1) | exact HB.out)); rintro e w18 ⟨rfl, hi, hb, hk⟩; refine ⟨_, rfl, ?_⟩; replace HO_6 := Aside0.mk (Kd.R_keep (ra HO_6.out) (hk g) (fun _ h => Nat.ne_of_gt h)); replace HI0 := Aside0.mk (IsF109.after (by repeat (first | (with_reducible first | exact HI0.out | apply IsF109.drewN | apply IsF109.drew) | exact HI0.out)) hi hk); replace HB := Aside0.mk (hb); clear hb hk hi; clear hx282_0; obtain ⟨ASz19_1, cSz19_1, HGz19, hgz19, HSz19_1⟩ := HI0.out; have GZ19 := Aside0.mk hgz19; have hcz19_0 := cellS109_0 HGz19; have hcz19_1 := cellS109_1 HGz19; have hcz19_2 := cellS109_2 HGz19; have hfz19_0 := blk_frozen HGz19 0; clear HGz19 hgz19; have p12 : 0 ≤ (t283 : Int) := od_; have q12 : (t283 : Int) < ((x1002_2.length : Int) : Int) := od_; obtain ⟨hx12_0, hf12_0⟩ := Kd.R_celln 0 (Kd.R_below HU.out HB.out) (t283 : Int) p12 q12; replace hx12_0 : World.cell? _ _ = some (.int .i64 (rd x1002_2 t283)) := hx12_0; replace p12 := eq_true p12; replace q12 := eq_true q12) | ((with_reducible refine gate_store (t := 3) (p := 45) rfl ?_); refine store_event (t := 3) (p := 45) (v := ?vo_w20) (w1 := (w18.setCell ⟨go12, (t283 : Int).toNat, none⟩ (.int .i64 (wrap64 ((rd x1002_2 t283) + t284))))) ?hg ?ho ?hn ?hr ?_; (case ho => rfl); (case hg => rfl); (case hn => rfl); (case hr => first | (go_simp; done) | (go_simp; rfl)); intro w20 hw; have hne_ : go12 ≠ g := (by have := GL12.out; have := GZ19.out; omega); replace HO_6 := Aside0.mk ((by rw [hw]; exact Kd.R_far (p := ⟨go12, (t283 : Int).toNat, none⟩) HO_6.out (fun k hk => (by have := GL12.out; have := GZ19.out; show k ≠ go12; omega)) _) : Kd.R (Kd.int .i64) 3 w20 g (fun k_ => g < k_) (.slice (some ad281) t277.length co11) t277); replace HI0 := Aside0.mk ((by rw [hw]; exact IsF109.put (by repeat (first | (with_reducible first | exact HI0.out | apply IsF109.drewN | apply IsF109.drew) | exact HI0.out)) ⟨go12, (t283 : Int).toNat, none⟩ hne_ _ _ _) : IsF109 wb (w0.setCell ⟨go12, (t283 : Int).toNat, none⟩ (.int .i64 (wrap64 ((rd x1002_2 t283) + t284)))) w20 g t285 s0_1 (some ⟨go12, 0, none⟩) c2 (x1002_2.set t283.toNat (wrap64 ((rd x1002_2 t283) + t284)))); replace HU := Aside0.mk ((by rw [List.length_set]; exact (Kd.R_putg HU.out (t283 : Int) (wrap64 ((rd x1002_2 t283) + t284))).1) : Kd.R (Kd.int .i64) 3 (w0.setCell ⟨go12, (t283 : Int).toNat, none⟩ (.int .i64 (wrap64 ((rd x1002_2 t283) + t284)))) wb.heap.size ok (.slice (some ⟨go12, 0, none⟩) (x1002_2.set t283.toNat (wrap64 ((rd x1002_2 t283) + t284))).length c2) (x1002_2.set t283.toNat (wrap64 ((rd x1002_2 t283) + t284)))); replace HD := Aside0.mk ((below_set HD.out GB12.out) : Below wb.heap.size wb (w0.setCell ⟨go12, (t283 : Int).toNat, none⟩ (.int .i64 (wrap64 ((rd x1002_2 t283) + t284))))); replace HB := Aside0.mk ((by rw [hw, World.size_set_]; exact Below.both HB.out _ _) : Below (w0.setCell ⟨go12, (t283 : Int).toNat, none⟩ (.int .i64 (wrap64 ((rd x1002_2 t283) + t284)))).heap.size (w0.setCell ⟨go12, (t283 : Int).toNat, none⟩ (.int .i64 (wrap64 ((rd x1002_2 t283) + t284)))) w20); clear hw; have p287 : 0 ≤ (x7_2 : Int) := od_; have q287 : x7_2 < (t277.length : Int) := od_; obtain ⟨ad287, e287, hx287_0⟩ := Kd.at_int (Kd.R_reads' HO_6.out).2.2 x7_2 p287 q287; obtain rfl : ad281 = ad287 := (by injection e287); replace p287 := eq_true p287; replace q287 := eq_true q287))
     go_roundg k2
     case measure => have := HK1.out; have := HK2.out; omega
     case rel => exact ⟨(rd t277 x7_2), t285, _, _, (by first | rfl | (simp; done) | (simp [*]; done)), H', ⟨by have := HK1.out; have := HK2.out; omega⟩, ⟨ra HO_6.out⟩, ⟨(by repeat (first | (with_reducible first | exact HI0.out | apply IsF109.drewN | apply IsF109.drew) | exact HI0.out))⟩, HU, HD, ⟨(by repeat (first | (with_reducible first | exact HB.out | apply below_alloc | apply pw_below_drewN | apply below_drew1) | exact HB.out))⟩⟩

def impl_flowOf.f (k : Nat) (a0 : Int) (l1 : List (S47)) (a2 : Int) (a3 : Int) : Option (Int × (List (S47)) × List Int) := if 0 ≤ (l1.length : Int) then (if ((l1.length : Int) : Int).toNat ≤ 35184372088832 then ((impl_flow_fill.f k a0 l1 (List.replicate ((l1.length : Int) : Int).toNat 0) a2 a3).bind fun bt288 => (some (bt288.1, l1, bt288.2))) else (none)) else (none)
theorem impl_flowOf.mono : ∀ a0 a1 a2 a3 k, LeO (impl_flowOf.f k a0 a1 a2 a3) (impl_flowOf.f (k + 1) a0 a1 a2 a3) := by
 intro a0 a1 a2 a3 k
 unfold impl_flowOf.f
 repeat' first
   | (with_reducible exact impl_flow_fill.mono _ _ _ _ _ _)
   | with_reducible first | exact LeO.refl _ | exact LeO.none _ | refine LeO.ite ?_ ?_ | refine LeO.bind ?_ fun _ => ?_
set_option maxHeartbeats 8000000 in
set_option maxRecDepth 100000 in
theorem impl_flowOf.callsO (k : Nat) (a0 : Int) (A1 : Option Addr) (c1 : Nat) (l1 : List (S47)) (a2 : Int) (a3 : Int) (r1 : Int) (r2 : List (S47)) (r3 : List Int) (w : World) (hr1 : Kd.C k47 w A1 l1.length l1) (hc1 : l1.length ≤ c1) (h : impl_flowOf.f k a0 l1 a2 a3 = some (r1, r2, r3)) :
  Calls Try.prog 62 #[.int .i64 a0, .slice A1 l1.length c1, .int .i64 a2, .int .i64 a3] w fun e w' => ∃ (g_ : Nat) (w1 : World) (A2_ : Option Addr) (c2_ : Nat), e = .returned (.pointer (some ⟨g_, 0, none⟩)) ∧ IsF109 w w1 w' g_ r1 r2 A2_ c2_ r3 ∧ Kd.R (Kd.int .i64) 3 w1 w.heap.size (fun _ => True) (.slice A2_ r3.length c2_) r3 ∧ Below w.heap.size w w1 ∧ Below w1.heap.size w1 w' := by
 have hu109 := Try.underlying109
 have HR1 := Aside0.mk hr1
 have HC1 := Aside0.mk hc1
 clear hr1 hc1
 have HB := Aside0.mk (Below.refl w.heap.size w)
 have H : (if 0 ≤ (l1.length : Int) then (if ((l1.length : Int) : Int).toNat ≤ 35184372088832 then ((impl_flow_fill.f k a0 l1 (List.replicate ((l1.length : Int) : Int).toNat 0) a2 a3).bind fun bt288 => (some (bt288.1, l1, bt288.2))) else (none)) else (none)) = some (r1, r2, r3) := h
 clear h
 by_cases c5 : 0 ≤ (l1.length : Int)
 rotate_left
 ·rw [if_neg c5] at H
  exact absurd H (by simp)
 rw [if_pos c5] at H
 have c5b0 := eq_true c5
 have c5b1 : decide (0 ≤ (l1.length : Int)) = true := decide_eq_true c5
 clear c5
 by_cases c6 : ((l1.length : Int) : Int).toNat ≤ 35184372088832
 rotate_left
 ·rw [if_neg c6] at H
  exact absurd H (by simp)
 rw [if_pos c6] at H
 have c6b0 := eq_true c6
 have c6b1 : decide (((l1.length : Int) : Int).toNat ≤ 35184372088832) = true := decide_eq_true c6
 clear c6
 obtain ⟨y194, hy194⟩ : ∃ y_ : List Int, y_ = (List.replicate ((l1.length : Int) : Int).toNat 0) := ⟨_, rfl⟩
 rw [← hy194] at H
 have Ny194 := Aside0.mk hy194
 clear hy194
 replace H := Option.bind_eq_some_iff.mp H
 obtain ⟨⟨t1, t2⟩, A40, H⟩ := H
 replace H : (some (t1, l1, t2)) = some (r1, r2, r3) := H
 have A4 := Aside0.mk A40
 clear A40
 simp only [Option.some.injEq, Prod.mk.injEq] at H
 obtain ⟨rfl, rfl, rfl⟩ := H
 go_enter Try.func62, Try.ntmps62
 go_wp2_with (first | ((with_reducible refine gate_dst (N := 14) rfl ?_); refine Kd.R_make (Kd.int .i64) _ 3 rfl (N := 14) rfl 24 _ _ rfl (l1.length : Int) rfl rfl Try.underlying24 (.int .i64 0) 8 info3 rfl (by decide) (by omega) 0 (ok := fun _ => True) (okp := fun _ => True) rfl (fun _ hk => hk) trivial (od_) (Nat.le_trans (Nat.mul_le_mul_right _ (od_ : (l1.length : Int).toNat ≤ 35184372088832)) (by omega)) (Below.refl _ _) (Nat.le_refl _) ?_; intro v195 w7 ho8 hb hg_ hnew_; clear hg_ hnew_; (first | rw [← Ny194.out] at ho8 | (simp only [Int.reduceToNat] at ho8; rw [← Ny194.out] at ho8)); have HO196 := Aside0.mk (Kd.R_lower ho8 (below_size (hB HB))); replace HB := bst_ HB hb; clear hb ho8; obtain ⟨Ao7, co7, eo7⟩ := Kd.R_slice HO196.out; subst eo7) | ((with_reducible refine gate_dst (N := 16) rfl ?_); refine bx_ev 16 #[.int .i64 a0, .slice A1 l1.length c1, .slice Ao7 y194.length co7] 109 ?_; intro gb288 hg w9 hbox hb; obtain ⟨wz, HI0, HU, HD, HBz⟩ : ∃ wz, Aside0 (IsF109 w wz w9 gb288 a0 l1 Ao7 co7 y194) ∧ Aside0 (Kd.R (Kd.int .i64) 3 wz w.heap.size (fun _ => True) (.slice Ao7 y194.length co7) y194) ∧ Aside0 (Below w.heap.size w wz) ∧ Aside0 (Below wz.heap.size wz w9) := ⟨_, ⟨IsF109.make hbox hg HR1.out⟩, ⟨ra HO196.out⟩, ⟨hB HB⟩, ⟨hb⟩⟩; replace HB := HBz; clear HBz; clear hbox hb hg HO196) | (go_at_call 106; (with_reducible refine (impl_flow_fill.calls k gb288 a0 l1 y194 a2 a3 t1 t2 Ao7 co7 (fun _ => True) w wz _ ?side1 ?side2 ?side3 ?side4 A4.out).mono ?_); (case side1 => repeat (first | (with_reducible first | exact HI0.out | apply IsF109.drewN | apply IsF109.drew) | exact HI0.out)); (case side2 => exact HU.out); (case side3 => exact HD.out); (case side4 => repeat (first | (with_reducible first | exact HB.out | apply below_alloc | apply pw_below_drewN | apply below_drew1) | exact HB.out)); rintro e w10 ⟨rfl, w1, hi, hu, hd, hb⟩; clear HI0 HU HD HB; have HI0 := Aside0.mk hi; have HU := Aside0.mk hu; have HD := Aside0.mk hd; have HB := Aside0.mk hb; clear hi hu hd hb))
 go_ret
 exact ⟨_, w1, Ao7, co7, rfl, (by repeat (first | (with_reducible first | exact HI0.out | apply IsF109.drewN | apply IsF109.drew) | exact HI0.out)), HU.out, HD.out, (by repeat (first | (with_reducible first | exact HB.out | apply below_alloc | apply pw_below_drewN | apply below_drew1) | exact HB.out))⟩
theorem impl_flowOf.calls (k : Nat) (a0 : Int) (A1 : Option Addr) (c1 : Nat) (l1 : List (S47)) (a2 : Int) (a3 : Int) (r1 : Int) (r2 : List (S47)) (r3 : List Int) (w : World) (hr1 : Kd.C k47 w A1 l1.length l1) (hc1 : l1.length ≤ c1) (h : impl_flowOf.f k a0 l1 a2 a3 = some (r1, r2, r3)) :
  Calls Try.prog 62 #[.int .i64 a0, .slice A1 l1.length c1, .int .i64 a2, .int .i64 a3] w fun e w' => ∃ (g_ : Nat) (w1 : World), e = .returned (.pointer (some ⟨g_, 0, none⟩)) ∧ IsS109 w1 w' g_ r1 r2 r3 ∧ Below w.heap.size w w1 ∧ Below w1.heap.size w1 w' := by
 refine (impl_flowOf.callsO k a0 A1 c1 l1 a2 a3 r1 r2 r3 w hr1 hc1 h).mono ?_
 rintro e w' ⟨g, w1, A2, c2, he, hi, hu, hd, hb⟩
 exact ⟨g, w1, he, IsF109.is hi hd hu, hd, hb⟩

end Go.Proofs.Ythambdfgkfkcmaa.P
