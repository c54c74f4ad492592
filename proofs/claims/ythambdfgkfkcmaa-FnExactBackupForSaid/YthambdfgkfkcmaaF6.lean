import Derived.Test.YthambdfgkfkcmaaF0
import Derived.Test.YthambdfgkfkcmaaF4
import Derived.Test.YthambdfgkfkcmaaF5
namespace Go.Proofs.Ythambdfgkfkcmaa.P
open Go.RowKit Go.Proofs.YthambdfgkfkcmaaW.PrintWords Go.Proofs.YthambdfgkfkcmaaW.PrintLast Go.Proofs.YthambdfgkfkcmaaW.PrintMore
attribute [local go_sem] max2_int min2_int max_two min_two max_three min_three max_four min_four   -- for this text's walks alone
set_option linter.unusedVariables false
set_option linter.unusedSimpArgs false
attribute [local go_sem high] eqA47


def KeepSz (w w' : World) (_ : Nat) (_ : Option Nat) : Prop := w.heap.size ≤ w'.heap.size
theorem KeepSz.refl (w : World) (g : Nat) (row : Option Nat) : KeepSz w w g row := Nat.le_refl _
theorem KeepSz.of_grown {w w1 : World} {row : Option Nat} (h : w.grownBy w1 row) (g : Nat) : KeepSz w w1 g row := h.size
theorem KeepSz.of_below {w w1 : World} (h : Below w.heap.size w w1) (g : Nat) (row : Option Nat) : KeepSz w w1 g row := h.size
theorem KeepSz.of_all {w w1 : World} {g : Nat} {row : Option Nat} (h : KeepAll w w1 g row) : KeepSz w w1 g row := keepA_size h
theorem KeepSz.trans {w w1 w2 : World} {g : Nat} {row row1 : Option Nat} (h : KeepSz w w1 g row) (k : KeepSz w1 w2 g row1) (_ : row1 = row ∨ ∃ b, row1 = some b ∧ w.heap.size ≤ b) : KeepSz w w2 g row := Nat.le_trans h k
theorem keepS_drewN {w W : World} {g : Nat} {row : Option Nat} (h : KeepSz w W g row) (m : Nat) : KeepSz w (W.drewN m) g row := h
theorem keepS_drew {w W : World} {g : Nat} {row : Option Nat} (h : KeepSz w W g row) : KeepSz w W.drew g row := h
theorem keepS_alloc {w W : World} {g : Nat} (h : KeepSz w W g none) (o : Obj) : KeepSz w (W.alloc o) g none := Nat.le_trans h (by simp)
theorem keepS_size {w W : World} {g : Nat} {row : Option Nat} (h : KeepSz w W g row) : w.heap.size ≤ W.heap.size := h
section
variable {wb w0 W : World} {g : Nat} {f0 : Int} {f1 : List (S47)} {A2 : Option Addr} {c2 : Nat} {f2 : List Int}
theorem IsF109.ge (h : IsF109 wb w0 W g f0 f1 A2 c2 f2) : w0.heap.size ≤ g := by
  obtain ⟨_, _, _, h2, _⟩ := h
  exact h2
theorem IsF109.grown {W1 : World} {row : Option Nat} (h : IsF109 wb w0 W g f0 f1 A2 c2 f2) (hw : W.grownBy W1 row) (hne : some g ≠ row) : IsF109 wb w0 W1 g f0 f1 A2 c2 f2 := by
  obtain ⟨A1, c1, h1, h2, h3⟩ := h
  exact ⟨A1, c1, blk_grown h1 hw hne, h2, h3⟩
theorem IsF109.below {W1 : World} (h : IsF109 wb w0 W g f0 f1 A2 c2 f2) (hw : Below W.heap.size W W1) : IsF109 wb w0 W1 g f0 f1 A2 c2 f2 := h.grown (grown_of_below hw none) (by simp)
theorem IsF109.alloc (h : IsF109 wb w0 W g f0 f1 A2 c2 f2) (o : Obj) : IsF109 wb w0 (W.alloc o) g f0 f1 A2 c2 f2 := h.below (below_alloc (Below.refl _ _) o)
end
theorem below_weaken_ {wb w0 W : World} (h : Below wb.heap.size wb w0) (k : Below w0.heap.size w0 W) : Below wb.heap.size w0 W := ⟨k.os, k.tape, k.output, k.size, fun i hi => k.block i (Nat.lt_of_lt_of_le hi h.size)⟩
mutual
def impl_flow_ways.l0 : Nat → Int → Int → List (List Int) → Int → List (S47) → List Int → Option ((List (List Int)) × Int)
 | 0, _, _, _, _, _, _ => none
 | k + 1, x1, x2, x7, x1000, x1001, x1002 => impl_flow_ways.l1 k x1 x2 x7 (([x1] : List Int)) x1 x1000 x1001 x1002
def impl_flow_ways.l1 : Nat → Int → Int → List (List Int) → List Int → Int → Int → List (S47) → List Int → Option ((List (List Int)) × Int)
 | 0, _, _, _, _, _, _, _, _ => none
 | k + 1, x1, x2, x7, x8, x9, x1000, x1001, x1002 => if x9 = x2 then (if x7.length < 5864062014805 then (impl_flow_ways.l0 k x1 x2 (x7 ++ [x8]) x1000 x1001 x1002) else (none)) else (impl_flow_ways.l2 k x1 x2 x7 x8 x9 (-1) 0 x1000 x1001 x1002)
def impl_flow_ways.l2 : Nat → Int → Int → List (List Int) → List Int → Int → Int → Int → Int → List (S47) → List Int → Option ((List (List Int)) × Int)
 | 0, _, _, _, _, _, _, _, _, _, _ => none
 | k + 1, x1, x2, x7, x8, x9, x10, x11, x1000, x1001, x1002 => if x11 < x1000 then (impl_flow_ways.j3 k x1 x2 x7 x8 x9 x10 x11 (decide (x10 < 0)) x1000 x1001 x1002) else (impl_flow_ways.j3 k x1 x2 x7 x8 x9 x10 x11 false x1000 x1001 x1002)
def impl_flow_ways.j3 : Nat → Int → Int → List (List Int) → List Int → Int → Int → Int → Bool → Int → List (S47) → List Int → Option ((List (List Int)) × Int)
 | 0, _, _, _, _, _, _, _, _, _, _, _ => none
 | k + 1, x1, x2, x7, x8, x9, x10, x11, x29, x1000, x1001, x1002 => if x29 = true then ((impl_flow_edge.f k x1000 x1001 x1002 x9 x11).bind fun bt365 => (if bt365.1 ≥ 0 then (if 0 ≤ bt365.1 then (if bt365.1 < (x1002.length : Int) then (if (rd x1002 bt365.1) = bt365.2.1 then (impl_flow_ways.l2 k x1 x2 x7 x8 x9 x11 (wrap64 (x11 + 1)) bt365.2.2 x1001 (x1002.set bt365.1.toNat 0)) else (impl_flow_ways.l2 k x1 x2 x7 x8 x9 x10 (wrap64 (x11 + 1)) bt365.2.2 x1001 x1002)) else (none)) else (none)) else (impl_flow_ways.l2 k x1 x2 x7 x8 x9 x10 (wrap64 (x11 + 1)) bt365.2.2 x1001 x1002))) else (if x10 < 0 then (some (x7, x1000)) else (if x8.length < 17592186044416 then (impl_flow_ways.l1 k x1 x2 x7 (x8 ++ [x10]) x10 x1000 x1001 x1002) else (none)))
end
def impl_flow_ways.f (k : Nat) (s0_0 : Int) (s0_1 : List (S47)) (s0_2 : List Int) (a1 : Int) (a2 : Int) : Option ((List (List Int)) × Int) := impl_flow_ways.l0 k a1 a2 ([] : List (List Int)) s0_0 s0_1 s0_2
theorem impl_flow_ways.mono_l : ∀ k, (∀ y0 y1 y2 y3 y4 y5, LeO (impl_flow_ways.l0 k y0 y1 y2 y3 y4 y5) (impl_flow_ways.l0 (k + 1) y0 y1 y2 y3 y4 y5)) ∧ (∀ y0 y1 y2 y3 y4 y5 y6 y7, LeO (impl_flow_ways.l1 k y0 y1 y2 y3 y4 y5 y6 y7) (impl_flow_ways.l1 (k + 1) y0 y1 y2 y3 y4 y5 y6 y7)) ∧ (∀ y0 y1 y2 y3 y4 y5 y6 y7 y8 y9, LeO (impl_flow_ways.l2 k y0 y1 y2 y3 y4 y5 y6 y7 y8 y9) (impl_flow_ways.l2 (k + 1) y0 y1 y2 y3 y4 y5 y6 y7 y8 y9)) ∧ (∀ y0 y1 y2 y3 y4 y5 y6 y7 y8 y9 y10, LeO (impl_flow_ways.j3 k y0 y1 y2 y3 y4 y5 y6 y7 y8 y9 y10) (impl_flow_ways.j3 (k + 1) y0 y1 y2 y3 y4 y5 y6 y7 y8 y9 y10))
 | 0 => ⟨fun _ _ _ _ _ _ r h => by simp [impl_flow_ways.l0] at h, fun _ _ _ _ _ _ _ _ r h => by simp [impl_flow_ways.l1] at h, fun _ _ _ _ _ _ _ _ _ _ r h => by simp [impl_flow_ways.l2] at h, fun _ _ _ _ _ _ _ _ _ _ _ r h => by simp [impl_flow_ways.j3] at h⟩
 | k + 1 => by
  obtain ⟨ih0, ih1, ih2, ih3⟩ := impl_flow_ways.mono_l k
  refine ⟨?_, ?_, ?_, ?_⟩
  ·intro y0 y1 y2 y3 y4 y5
   unfold impl_flow_ways.l0
   repeat' first
   | (with_reducible exact ih0 _ _ _ _ _ _)
   | (with_reducible exact ih1 _ _ _ _ _ _ _ _)
   | (with_reducible exact ih2 _ _ _ _ _ _ _ _ _ _)
   | (with_reducible exact ih3 _ _ _ _ _ _ _ _ _ _ _)
   | (with_reducible exact impl_flow_edge.mono _ _ _ _ _ _)
   | with_reducible first | exact LeO.refl _ | exact LeO.none _ | refine LeO.ite ?_ ?_ | refine LeO.bind ?_ fun _ => ?_
  ·intro y0 y1 y2 y3 y4 y5 y6 y7
   unfold impl_flow_ways.l1
   repeat' first
   | (with_reducible exact ih0 _ _ _ _ _ _)
   | (with_reducible exact ih1 _ _ _ _ _ _ _ _)
   | (with_reducible exact ih2 _ _ _ _ _ _ _ _ _ _)
   | (with_reducible exact ih3 _ _ _ _ _ _ _ _ _ _ _)
   | (with_reducible exact impl_flow_edge.mono _ _ _ _ _ _)
   | with_reducible first | exact LeO.refl _ | exact LeO.none _ | refine LeO.ite ?_ ?_ | refine LeO.bind ?_ fun _ => ?_
  ·intro y0 y1 y2 y3 y4 y5 y6 y7 y8 y9
   unfold impl_flow_ways.l2
   repeat' first
   | (with_reducible exact ih0 _ _ _ _ _ _)
   | (with_reducible exact ih1 _ _ _ _ _ _ _ _)
   | (with_reducible exact ih2 _ _ _ _ _ _ _ _ _ _)
   | (with_reducible exact ih3 _ _ _ _ _ _ _ _ _ _ _)
   | (with_reducible exact impl_flow_edge.mono _ _ _ _ _ _)
   | with_reducible first | exact LeO.refl _ | exact LeO.none _ | refine LeO.ite ?_ ?_ | refine LeO.bind ?_ fun _ => ?_
  ·intro y0 y1 y2 y3 y4 y5 y6 y7 y8 y9 y10
   unfold impl_flow_ways.j3
   repeat' first
   | (with_reducible exact ih0 _ _ _ _ _ _)
   | (with_reducible exact ih1 _ _ _ _ _ _ _ _)
   | (with_reducible exact ih2 _ _ _ _ _ _ _ _ _ _)
   | (with_reducible exact ih3 _ _ _ _ _ _ _ _ _ _ _)
   | (with_reducible exact impl_flow_edge.mono _ _ _ _ _ _)
   | with_reducible first | exact LeO.refl _ | exact LeO.none _ | refine LeO.ite ?_ ?_ | refine LeO.bind ?_ fun _ => ?_
theorem impl_flow_ways.mono : ∀ a0 a1 a2 a3 a4 k, LeO (impl_flow_ways.f k a0 a1 a2 a3 a4) (impl_flow_ways.f (k + 1) a0 a1 a2 a3 a4) := by
 intro a0 a1 a2 a3 a4 k
 obtain ⟨ih0, ih1, ih2, ih3⟩ := impl_flow_ways.mono_l k
 unfold impl_flow_ways.f
 repeat' first
   | (with_reducible exact ih0 _ _ _ _ _ _)
   | (with_reducible exact ih1 _ _ _ _ _ _ _ _)
   | (with_reducible exact ih2 _ _ _ _ _ _ _ _ _ _)
   | (with_reducible exact ih3 _ _ _ _ _ _ _ _ _ _ _)
   | (with_reducible exact impl_flow_edge.mono _ _ _ _ _ _)
   | with_reducible first | exact LeO.refl _ | exact LeO.none _ | refine LeO.ite ?_ ?_ | refine LeO.bind ?_ fun _ => ?_
set_option maxHeartbeats 8000000 in
set_option maxRecDepth 100000 in
theorem impl_flow_ways.calls (k : Nat) (g : Nat) (s0_0 : Int) (s0_1 : List (S47)) (s0_2 : List Int) (a1 : Int) (a2 : Int) (r1 : List (List Int)) (r2 : Int) (A2 : Option Addr) (c2 : Nat) (ok : Nat → Prop) (wb wz w : World) (hI : IsF109 wb wz w g s0_0 s0_1 A2 c2 s0_2) (hO : Kd.R (Kd.int .i64) 3 wz wb.heap.size ok (.slice A2 s0_2.length c2) s0_2) (hbb : Below wb.heap.size wb wz) (hB : Below wz.heap.size wz w) (h : impl_flow_ways.f k s0_0 s0_1 s0_2 a1 a2 = some (r1, r2)) :
  Calls Try.prog 109 #[.pointer (some ⟨g, 0, none⟩), .int .i64 a1, .int .i64 a2] w fun e w' => ∃ v0_ : Value, e = .returned (v0_) ∧ Kd.S (Kd.slice 3 (Kd.int .i64)) 24 w' w.heap.size (fun _ => True) v0_ r1 ∧ Below wb.heap.size wb w' := by
 have HI0 := Aside0.mk hI
 have HGL := Aside0.mk (IsF109.lt hI)
 have HU := Aside0.mk hO
 have HD := Aside0.mk hbb
 have HK := Aside0.mk (KeepSz.refl w g none)
 have HB := Aside0.mk hB
 clear hI hO hbb hB
 have H : (impl_flow_ways.l0 k a1 a2 ([] : List (List Int)) s0_0 s0_1 s0_2) = some (r1, r2) := h
 clear h
 have H' := Aside0.mk H
 clear H
 go_enter Try.func109, Try.ntmps109
 go_wp2
 go_loopg [7] k (fun kq v7 w' => ∃ (x7_1 : List (List Int)) (x1000_1 : Int) (x1002_1 : List Int) (w0 : World), Aside0 (impl_flow_ways.l0 kq a1 a2 x7_1 x1000_1 s0_1 x1002_1 = some (r1, r2)) ∧ Aside0 (kq ≤ k) ∧ Aside0 (Kd.S (Kd.slice 3 (Kd.int .i64)) 24 w' w.heap.size (fun _ => True) v7 x7_1) ∧ Aside0 (IsF109 wb w0 w' g x1000_1 s0_1 A2 c2 x1002_1) ∧ Aside0 (Kd.R (Kd.int .i64) 3 w0 wb.heap.size ok (.slice A2 x1002_1.length c2) x1002_1) ∧ Aside0 (Below wb.heap.size wb w0) ∧ Aside0 (KeepSz w w' g none) ∧ Aside0 (Below w0.heap.size w0 w'))
 case atStart => exact ⟨(([] : List (List Int))), (s0_0), s0_2, wz, H', ⟨Nat.le_refl _⟩, ⟨by first | exact Kd.S_nil _ _ _ _ _ | exact Kd.N_nil _ _ _ _ _ | exact Kd.V_nil _ _ _ _ _ | exact Kd.Q_nil _ _ _ _ _ | exact Kd.R_nil _ _ _ _ _⟩, ⟨by repeat (first | (with_reducible first | exact HI0.out | apply IsF109.alloc | apply IsF109.drewN | apply IsF109.drew) | exact HI0.out)⟩, HU, HD, ⟨by repeat (first | (with_reducible first | exact HK.out | apply keepS_drewN | apply keepS_drew | apply keepS_alloc) | exact HK.out)⟩, ⟨by repeat (first | (with_reducible first | exact HB.out | apply below_alloc | apply pw_below_drewN | apply below_drew1) | exact HB.out)⟩⟩
 case round =>
  clear H'
  obtain ⟨x7_1, x1000_1, x1002_1, w0, HA, HK1, HO_7, HI0, HU, HD, HK, HB⟩ := hrel
  cases gk with
  | zero => exact absurd HA.out (by simp [impl_flow_ways.l0])
  | succ k1 =>
   have H := HA.out
   clear HA
   simp only [impl_flow_ways.l0] at H
   obtain ⟨y359, hy359⟩ : ∃ y_ : List Int, y_ = (([a1] : List Int)) := ⟨_, rfl⟩
   replace H : (impl_flow_ways.l1 k1 a1 a2 x7_1 y359 a1 x1000_1 s0_1 x1002_1) = some (r1, r2) := by first | (rw [hy359]; with_reducible exact H) | (have H2_ := (Option.bind_some _ _).symm.trans H; rw [hy359]; with_reducible exact H2_) | (have H2_ := (Option.bind_some _ _).symm.trans H; with_reducible exact H2_) | with_reducible exact H | (rw [hy359]; exact H) | exact H
   have Ny359 := Aside0.mk hy359
   clear hy359
   have H' := Aside0.mk H
   clear H
   go_wp2_with (first | ((with_reducible refine gate_dst (N := 15) rfl ?_); refine Kd.R_lit (Kd.int .i64) _ 3 ?hg (N := 15) ?hd (xs := ([a1] : List Int)) (inner := [.int .i64 a1]) (ok := fun _ => True) (okp := fun _ => True) ?hr ?hp (fun _ hk => hk) trivial (Below.refl _ _) (Nat.le_refl _) (by simp) ?_; (case hd => rfl); (case hg => rfl); (case hr => first | (go_simp; done) | (go_simp; rfl)); (case hp => exact (Reps.one (show Kd.M (Kd.int .i64) _ _ _ a1 [.int .i64 a1] from rfl) (Reps.none _ _))); intro v360 w4 ho5 hb hg_ hnew_; clear hg_ hnew_; (first | rw [← Ny359.out] at ho5 | (simp only [Int.reduceToNat] at ho5; rw [← Ny359.out] at ho5)); have HO361 := Aside0.mk (Kd.R_lower ho5 (keepS_size (w := w) (g := g) (row := none) (by repeat (first | (with_reducible first | exact HK.out | apply keepS_drewN | apply keepS_drew | apply keepS_alloc) | exact HK.out)))); replace HO_7 := Aside0.mk (Kd.S_elder' (sa HO_7.out) (Kd.R_base ho5) hb); replace HK := Aside0.mk (KeepSz.trans (by repeat (first | (with_reducible first | exact HK.out | apply keepS_drewN | apply keepS_drew | apply keepS_alloc) | exact HK.out)) (KeepSz.of_below hb g none) (.inl rfl)); replace HB := Aside0.mk (below_step (by repeat (first | (with_reducible first | exact HB.out | apply below_alloc | apply pw_below_drewN | apply below_drew1) | exact HB.out)) hb); replace HI0 := Aside0.mk (IsF109.below (by repeat (first | (with_reducible first | exact HI0.out | apply IsF109.alloc | apply IsF109.drewN | apply IsF109.drew) | exact HI0.out)) hb); clear hb ho5))
   go_loopg [8, 9] k1 (fun kq v8 v9 w' => ∃ (x8_2 : List Int) (x9_2 : Int) (x1000_2 : Int) (x1002_2 : List Int) (w0 : World), v9 = .int .i64 x9_2 ∧ Aside0 (impl_flow_ways.l1 kq a1 a2 x7_1 x8_2 x9_2 x1000_2 s0_1 x1002_2 = some (r1, r2)) ∧ Aside0 (kq ≤ k1) ∧ Aside0 (Kd.S (Kd.slice 3 (Kd.int .i64)) 24 w' w.heap.size (fun k_ => no_ v8 k_) u7 x7_1) ∧ Aside0 (Kd.R (Kd.int .i64) 3 w' w.heap.size (fun _ => True) v8 x8_2) ∧ Aside0 (IsF109 wb w0 w' g x1000_2 s0_1 A2 c2 x1002_2) ∧ Aside0 (Kd.R (Kd.int .i64) 3 w0 wb.heap.size ok (.slice A2 x1002_2.length c2) x1002_2) ∧ Aside0 (Below wb.heap.size wb w0) ∧ Aside0 (KeepSz w w' g none) ∧ Aside0 (Below w0.heap.size w0 w'))
   case atStart => exact ⟨(y359), (a1), (x1000_1), x1002_1, w0, (by first | rfl | (simp; done) | (simp [*]; done)), H', ⟨Nat.le_refl _⟩, ⟨by (with_reducible repeat (first | apply Kd.S_alloc | apply Kd.S_drewN | apply Kd.S_drew)); exact Kd.S_mono HO_7.out (fun _ hk => hk.2)⟩, ⟨ra HO361.out⟩, ⟨by repeat (first | (with_reducible first | exact HI0.out | apply IsF109.alloc | apply IsF109.drewN | apply IsF109.drew) | exact HI0.out)⟩, HU, HD, ⟨by repeat (first | (with_reducible first | exact HK.out | apply keepS_drewN | apply keepS_drew | apply keepS_alloc) | exact HK.out)⟩, ⟨by repeat (first | (with_reducible first | exact HB.out | apply below_alloc | apply pw_below_drewN | apply below_drew1) | exact HB.out)⟩⟩
   case round =>
    clear H'
    obtain ⟨x8_2, x9_2, x1000_2, x1002_2, w0, rfl, HA, HK2, HO_7, HO_8, HI0, HU, HD, HK, HB⟩ := hrel
    cases gk with
    | zero => exact absurd HA.out (by simp [impl_flow_ways.l1])
    | succ k2 =>
     have H := HA.out
     clear HA
     simp only [impl_flow_ways.l1] at H
     by_cases c6 : x9_2 = a2
     ·rw [if_pos c6] at H
      have c6b0 : (x9_2 == a2) = true := beq_iff_eq.mpr c6
      have c6b1 : (x9_2 != a2) = false := bne_eq_false_iff_eq.mpr c6
      clear c6
      by_cases c7 : x7_1.length < 5864062014805
      rotate_left
      ·rw [if_neg c7] at H
       exact absurd H (by simp)
      rw [if_pos c7] at H
      have LMc7 := Aside0.mk c7
      clear c7
      obtain ⟨y362, hy362⟩ : ∃ y_ : List (List Int), y_ = (x7_1 ++ [x8_2]) := ⟨_, rfl⟩
      replace H : (impl_flow_ways.l0 k2 a1 a2 y362 x1000_2 s0_1 x1002_2) = some (r1, r2) := by first | (rw [hy362]; with_reducible exact H) | (have H2_ := (Option.bind_some _ _).symm.trans H; rw [hy362]; with_reducible exact H2_) | (have H2_ := (Option.bind_some _ _).symm.trans H; with_reducible exact H2_) | with_reducible exact H | (rw [hy362]; exact H) | exact H
      have Ny362 := Aside0.mk hy362
      clear hy362
      have H' := Aside0.mk H
      clear H
      obtain ⟨Ao9, co9, eo9⟩ := Kd.R_slice HO_8.out
      subst eo9
      go_wp2_with (first | ((with_reducible refine gate_builtin (b := .append) (xs := #[.tmp 67, .tmp 69]) rfl ?_); at_builtin; refine Kd.S_append (Kd.slice 3 (Kd.int .i64)) w.heap.size rfl (.tmp 67) (.tmp 69) 36 24 (.slice none 0 0) 24 rfl Try.underlying36 info24 rfl (by decide) (by omega) u7 x7_1 x8_2 [.slice Ao9 x8_2.length co9] (fun _ => True) (fun k_ => some k_ = (.slice Ao9 x8_2.length co9 : Value).ownBlock) rfl rfl ?aP (fun k_ hk_ => ((Kd.R_mono (ok' := fun k_ => ((fun _ => True)) k_ ∧ some k_ ≠ (u7 : Value).ownBlock) (Kd.R_apart' (HO_8.out) (Kd.S_typed HO_7.out) (by decide)) (fun k_ hk => ⟨trivial, hk.2⟩))).1 k_ hk_.symm) ?aF ?aO (Below.refl _ _) ?aS ?aL ?_; (case aP => exact Kd.M_row (Kd.R_mono (Kd.R_tight rfl (Kd.R_mono (ok' := fun k_ => ((fun _ => True)) k_ ∧ some k_ ≠ (u7 : Value).ownBlock) (Kd.R_apart' (HO_8.out) (Kd.S_typed HO_7.out) (by decide)) (fun k_ hk => ⟨trivial, hk.2⟩))) (fun _ h_ => h_))); (case aF => exact (fun _ _ => trivial)); (case aO => exact (by (with_reducible repeat (first | apply Kd.S_alloc | apply Kd.S_drewN | apply Kd.S_drew)); exact Kd.S_mono HO_7.out (fun k_ hk => ⟨trivial, fun e_ => hk e_⟩))); (case aS => exact (keepS_size (w := w) (g := g) (row := none) (by repeat (first | (with_reducible first | exact HK.out | apply keepS_drewN | apply keepS_drew | apply keepS_alloc) | exact HK.out)))); (case aL => have := LMc7.out; omega); intro v363 w8 ho hb hg hat; rw [← Ny362.out] at ho; have HO364 := Aside0.mk (ho); replace HB := Aside0.mk (below_weaken (by repeat (first | (with_reducible first | exact HB.out | apply below_alloc | apply pw_below_drewN | apply below_drew1) | exact HB.out)) (Nat.le_of_lt (Nat.lt_of_le_of_lt (IsF109.ge HI0.out) HGL.out)) hb); replace HI0 := Aside0.mk (IsF109.grown (by repeat (first | (with_reducible first | exact HI0.out | apply IsF109.alloc | apply IsF109.drewN | apply IsF109.drew) | exact HI0.out)) hg (IsS109.own_neS (IsF109.is HI0.out HD.out HU.out) HO_7.out (by decide))); replace HK := Aside0.mk (KeepSz.trans (by repeat (first | (with_reducible first | exact HK.out | apply keepS_drewN | apply keepS_drew | apply keepS_alloc) | exact HK.out)) (KeepSz.of_grown hg g) (Kd.S_base2 HO_7.out)); clear HO_7 HO_8; clear ho hb hg hat))
      go_roundg k2
      case measure => have := HK1.out; have := HK2.out; omega
      case rel => exact ⟨(y362), (x1000_2), x1002_2, w0, H', ⟨by have := HK1.out; have := HK2.out; omega⟩, ⟨by (with_reducible repeat (first | apply Kd.S_alloc | apply Kd.S_drewN | apply Kd.S_drew)); exact HO364.out⟩, ⟨by repeat (first | (with_reducible first | exact HI0.out | apply IsF109.alloc | apply IsF109.drewN | apply IsF109.drew) | exact HI0.out)⟩, HU, HD, ⟨by repeat (first | (with_reducible first | exact HK.out | apply keepS_drewN | apply keepS_drew | apply keepS_alloc) | exact HK.out)⟩, ⟨by repeat (first | (with_reducible first | exact HB.out | apply below_alloc | apply pw_below_drewN | apply below_drew1) | exact HB.out)⟩⟩
     rw [if_neg c6] at H
     have c6b0 : (x9_2 == a2) = false := beq_eq_false_iff_ne.mpr c6
     have c6b1 : (x9_2 != a2) = true := bne_iff_ne.mpr c6
     have H' := Aside0.mk H
     clear H
     go_wp2
     go_loopg [10, 11] k2 (fun kq v10 v11 w' => ∃ (x10_3 : Int) (x11_3 : Int) (x1000_3 : Int) (x1002_3 : List Int) (w0 : World), v10 = .int .i64 x10_3 ∧ v11 = .int .i64 x11_3 ∧ Aside0 (impl_flow_ways.l2 kq a1 a2 x7_1 x8_2 x9_2 x10_3 x11_3 x1000_3 s0_1 x1002_3 = some (r1, r2)) ∧ Aside0 (kq ≤ k2) ∧ Aside0 (Kd.S (Kd.slice 3 (Kd.int .i64)) 24 w' w.heap.size (fun k_ => some k_ ≠ (u8 : Value).ownBlock) u7 x7_1) ∧ Aside0 (Kd.R (Kd.int .i64) 3 w' w.heap.size (fun _ => True) u8 x8_2) ∧ Aside0 (IsF109 wb w0 w' g x1000_3 s0_1 A2 c2 x1002_3) ∧ Aside0 (Kd.R (Kd.int .i64) 3 w0 wb.heap.size ok (.slice A2 x1002_3.length c2) x1002_3) ∧ Aside0 (Below wb.heap.size wb w0) ∧ Aside0 (KeepSz w w' g none) ∧ Aside0 (Below w0.heap.size w0 w'))
     case atStart => exact ⟨((-1)), (0), (x1000_2), x1002_2, w0, (by first | rfl | (simp; done) | (simp [*]; done)), (by first | rfl | (simp; done) | (simp [*]; done)), H', ⟨Nat.le_refl _⟩, ⟨by (with_reducible repeat (first | apply Kd.S_alloc | apply Kd.S_drewN | apply Kd.S_drew)); exact HO_7.out⟩, ⟨ra HO_8.out⟩, ⟨by repeat (first | (with_reducible first | exact HI0.out | apply IsF109.alloc | apply IsF109.drewN | apply IsF109.drew) | exact HI0.out)⟩, HU, HD, ⟨by repeat (first | (with_reducible first | exact HK.out | apply keepS_drewN | apply keepS_drew | apply keepS_alloc) | exact HK.out)⟩, ⟨by repeat (first | (with_reducible first | exact HB.out | apply below_alloc | apply pw_below_drewN | apply below_drew1) | exact HB.out)⟩⟩
     case round =>
      clear H'
      try clear c6
      try clear c6b0
      try clear c6b1
      obtain ⟨x10_3, x11_3, x1000_3, x1002_3, w0, rfl, rfl, HA, HK3, HO_7, HO_8, HI0, HU, HD, HK, HB⟩ := hrel
      cases gk with
      | zero => exact absurd HA.out (by simp [impl_flow_ways.l2])
      | succ k3 =>
       have H := HA.out
       clear HA
       simp only [impl_flow_ways.l2] at H
       have HC10 := Aside0.mk H
       clear H
       go_upto_region 7 with (fail)
       go_cut [29] (fun v29 wc => ∃ (kq : Nat) (x29_9 : Bool), v29 = .bool x29_9 ∧ Aside0 (impl_flow_ways.j3 kq a1 a2 x7_1 x8_2 x9_2 x10_3 x11_3 x29_9 x1000_3 s0_1 x1002_3 = some (r1, r2)) ∧ Aside0 (kq ≤ k3) ∧ Aside0 (Kd.S (Kd.slice 3 (Kd.int .i64)) 24 wc w.heap.size (fun k_ => some k_ ≠ (u8 : Value).ownBlock) u7 x7_1) ∧ Aside0 (Kd.R (Kd.int .i64) 3 wc w.heap.size (fun _ => True) u8 x8_2) ∧ Aside0 (IsF109 wb w0 wc g x1000_3 s0_1 A2 c2 x1002_3) ∧ Aside0 (Kd.R (Kd.int .i64) 3 w0 wb.heap.size ok (.slice A2 x1002_3.length c2) x1002_3) ∧ Aside0 (Below wb.heap.size wb w0) ∧ Aside0 (KeepSz w wc g none) ∧ Aside0 (Below w0.heap.size w0 wc))
       case first =>
        have H := HC10.out
        clear HC10
        by_cases c11 : x11_3 < x1000_3
        rotate_left
        ·rw [if_neg c11] at H
         have c11b0 : decide (x11_3 < x1000_3) = false := decide_eq_false c11
         clear c11
         (first | rw [c11b0] | (simp only [i64_w, i32_w]; rw [c11b0]) | skip)
         have H' := Aside0.mk H
         clear H
         obtain ⟨ASz13_1, cSz13_1, HGz13, hgz13, HSz13_1⟩ := HI0.out
         have hcz13_0 := cellS109_0 HGz13
         have hcz13_1 := cellS109_1 HGz13
         have hcz13_2 := cellS109_2 HGz13
         have hfz13_0 := blk_frozen HGz13 0
         clear HGz13 hgz13
         go_wp2
         go_meet
         case rel => exact ⟨_, (false), (by first | rfl | (simp; done) | (simp [*]; done)), H', ⟨by have := HK1.out; have := HK2.out; have := HK3.out; first | omega | exact Nat.le_refl _⟩, ⟨by (with_reducible repeat (first | apply Kd.S_alloc | apply Kd.S_drewN | apply Kd.S_drew)); exact HO_7.out⟩, ⟨ra HO_8.out⟩, ⟨by repeat (first | (with_reducible first | exact HI0.out | apply IsF109.alloc | apply IsF109.drewN | apply IsF109.drew) | exact HI0.out)⟩, HU, HD, ⟨by repeat (first | (with_reducible first | exact HK.out | apply keepS_drewN | apply keepS_drew | apply keepS_alloc) | exact HK.out)⟩, ⟨by repeat (first | (with_reducible first | exact HB.out | apply below_alloc | apply pw_below_drewN | apply below_drew1) | exact HB.out)⟩⟩
        rw [if_pos c11] at H
        have c11b0 : decide (x11_3 < x1000_3) = true := decide_eq_true c11
        clear c11
        (first | rw [c11b0] | (simp only [i64_w, i32_w]; rw [c11b0]) | skip)
        have H' := Aside0.mk H
        clear H
        obtain ⟨ASz12_1, cSz12_1, HGz12, hgz12, HSz12_1⟩ := HI0.out
        have hcz12_0 := cellS109_0 HGz12
        have hcz12_1 := cellS109_1 HGz12
        have hcz12_2 := cellS109_2 HGz12
        have hfz12_0 := blk_frozen HGz12 0
        clear HGz12 hgz12
        go_wp2
        go_meet
        case rel => exact ⟨_, (decide (x10_3 < 0)), (by first | rfl | (simp; done) | (simp [*]; done)), H', ⟨by have := HK1.out; have := HK2.out; have := HK3.out; first | omega | exact Nat.le_refl _⟩, ⟨by (with_reducible repeat (first | apply Kd.S_alloc | apply Kd.S_drewN | apply Kd.S_drew)); exact HO_7.out⟩, ⟨ra HO_8.out⟩, ⟨by repeat (first | (with_reducible first | exact HI0.out | apply IsF109.alloc | apply IsF109.drewN | apply IsF109.drew) | exact HI0.out)⟩, HU, HD, ⟨by repeat (first | (with_reducible first | exact HK.out | apply keepS_drewN | apply keepS_drew | apply keepS_alloc) | exact HK.out)⟩, ⟨by repeat (first | (with_reducible first | exact HB.out | apply below_alloc | apply pw_below_drewN | apply below_drew1) | exact HB.out)⟩⟩
       case rest =>
        clear HC10
        try clear c6
        try clear c6b0
        try clear c6b1
        obtain ⟨kq, x29_9, rfl, HA, HJ9, HO_7, HO_8, HI0, HU, HD, HK, HB⟩ := hcut
        cases kq with
        | zero => exact absurd HA.out (by simp [impl_flow_ways.j3])
        | succ kj9 =>
         have H := HA.out
         clear HA
         simp only [impl_flow_ways.j3] at H
         by_cases c14 : x29_9 = true
         rotate_left
         ·replace c14 := Bool.eq_false_iff.mpr c14
          subst c14
          rw [if_neg (show ¬ (false = true) by decide)] at H
          by_cases c25 : x10_3 < 0
          ·rw [if_pos c25] at H
           have c25b0 : decide (x10_3 < 0) = true := decide_eq_true c25
           clear c25
           simp only [Option.some.injEq, Prod.mk.injEq] at H
           obtain ⟨rfl, rfl⟩ := H
           go_wp2
           go_ret
           exact ⟨_, rt_, by (with_reducible repeat (first | apply Kd.S_alloc | apply Kd.S_drewN | apply Kd.S_drew)); exact Kd.S_mono HO_7.out (fun _ hk => trivial), Below.trans HD.out (below_weaken_ HD.out (by repeat (first | (with_reducible first | exact HB.out | apply below_alloc | apply pw_below_drewN | apply below_drew1) | exact HB.out)))⟩
          rw [if_neg c25] at H
          have c25b0 : decide (x10_3 < 0) = false := decide_eq_false c25
          clear c25
          by_cases c26 : x8_2.length < 17592186044416
          rotate_left
          ·rw [if_neg c26] at H
           exact absurd H (by simp)
          rw [if_pos c26] at H
          have LMc26 := Aside0.mk c26
          clear c26
          obtain ⟨y369, hy369⟩ : ∃ y_ : List Int, y_ = (x8_2 ++ [x10_3]) := ⟨_, rfl⟩
          replace H : (impl_flow_ways.l1 kj9 a1 a2 x7_1 y369 x10_3 x1000_3 s0_1 x1002_3) = some (r1, r2) := by first | (rw [hy369]; with_reducible exact H) | (have H2_ := (Option.bind_some _ _).symm.trans H; rw [hy369]; with_reducible exact H2_) | (have H2_ := (Option.bind_some _ _).symm.trans H; with_reducible exact H2_) | with_reducible exact H | (rw [hy369]; exact H) | exact H
          have Ny369 := Aside0.mk hy369
          clear hy369
          have H' := Aside0.mk H
          clear H
          go_wp2_with (first | ((with_reducible refine gate_builtin (b := .append) (xs := #[.tmp 62, .tmp 64]) rfl ?_); at_builtin; refine Kd.R_append (Kd.int .i64) w.heap.size rfl (.tmp 62) (.tmp 64) 24 3 (.int .i64 0) 8 rfl Try.underlying24 info3 rfl (by decide) (by omega) u8 x8_2 x10_3 [.int .i64 x10_3] (fun _ => True) (fun _ => False) rfl rfl ?aP (fun _ hk => hk.elim) ?aF ?aO (Below.refl _ _) ?aS ?aL ?_; (case aP => exact rfl); (case aF => exact (fun _ _ => trivial)); (case aO => exact (ra HO_8.out)); (case aS => exact (keepS_size (w := w) (g := g) (row := none) (by repeat (first | (with_reducible first | exact HK.out | apply keepS_drewN | apply keepS_drew | apply keepS_alloc) | exact HK.out)))); (case aL => have := LMc26.out; omega); intro v370 w27 ho hb hg hat; rw [← Ny369.out] at ho; have HO371 := Aside0.mk (ho); replace HO_7 := Aside0.mk (Kd.S_after (ok := (fun _ => True)) (by (with_reducible repeat (first | apply Kd.S_alloc | apply Kd.S_drewN | apply Kd.S_drew)); exact Kd.S_mono HO_7.out (fun _ hk => ⟨trivial, hk⟩)) hg hat); replace HB := Aside0.mk (below_weaken (by repeat (first | (with_reducible first | exact HB.out | apply below_alloc | apply pw_below_drewN | apply below_drew1) | exact HB.out)) (Nat.le_of_lt (Nat.lt_of_le_of_lt (IsF109.ge HI0.out) HGL.out)) hb); replace HI0 := Aside0.mk (IsF109.grown (by repeat (first | (with_reducible first | exact HI0.out | apply IsF109.alloc | apply IsF109.drewN | apply IsF109.drew) | exact HI0.out)) hg (IsS109.own_ne (IsF109.is HI0.out HD.out HU.out) HO_8.out (by decide))); replace HK := Aside0.mk (KeepSz.trans (by repeat (first | (with_reducible first | exact HK.out | apply keepS_drewN | apply keepS_drew | apply keepS_alloc) | exact HK.out)) (KeepSz.of_grown hg g) (Kd.R_base2 HO_8.out)); clear HO_8; clear ho hb hg hat))
          go_roundg kj9
          case measure => have := HK1.out; have := HK2.out; have := HK3.out; have := HJ9.out; omega
          case rel => exact ⟨(y369), (x10_3), (x1000_3), x1002_3, w0, (by first | rfl | (simp; done) | (simp [*]; done)), H', ⟨by have := HK1.out; have := HK2.out; have := HK3.out; have := HJ9.out; omega⟩, ⟨by (with_reducible repeat (first | apply Kd.S_alloc | apply Kd.S_drewN | apply Kd.S_drew)); exact Kd.S_mono HO_7.out (fun _ hk => hk.2)⟩, ⟨ra HO371.out⟩, ⟨by repeat (first | (with_reducible first | exact HI0.out | apply IsF109.alloc | apply IsF109.drewN | apply IsF109.drew) | exact HI0.out)⟩, HU, HD, ⟨by repeat (first | (with_reducible first | exact HK.out | apply keepS_drewN | apply keepS_drew | apply keepS_alloc) | exact HK.out)⟩, ⟨by repeat (first | (with_reducible first | exact HB.out | apply below_alloc | apply pw_below_drewN | apply below_drew1) | exact HB.out)⟩⟩
         subst c14
         rw [if_pos rfl] at H
         replace H := Option.bind_eq_some_iff.mp H
         obtain ⟨⟨t365, t366, t367⟩, A150, H⟩ := H
         replace H : (if t365 ≥ 0 then (if 0 ≤ t365 then (if t365 < (x1002_3.length : Int) then (if (rd x1002_3 t365) = t366 then (impl_flow_ways.l2 kj9 a1 a2 x7_1 x8_2 x9_2 x11_3 (wrap64 (x11_3 + 1)) t367 s0_1 (x1002_3.set t365.toNat 0)) else (impl_flow_ways.l2 kj9 a1 a2 x7_1 x8_2 x9_2 x10_3 (wrap64 (x11_3 + 1)) t367 s0_1 x1002_3)) else (none)) else (none)) else (impl_flow_ways.l2 kj9 a1 a2 x7_1 x8_2 x9_2 x10_3 (wrap64 (x11_3 + 1)) t367 s0_1 x1002_3)) = some (r1, r2) := H
         have A15 := Aside0.mk A150
         clear A150
         by_cases c16 : t365 ≥ 0
         rotate_left
         ·rw [if_neg c16] at H
          have c16b0 : decide (0 ≤ t365) = false := decide_eq_false c16
          clear c16
          have H' := Aside0.mk H
          clear H
          go_wp2_with (first | ((with_reducible refine gate_dst (N := 36) rfl ?_); refine goesL_ (some 36) rfl rfl Try.func121 (by kernel_rfl) rfl #[.pointer (some ⟨g, 0, none⟩), .int .i64 x9_2, .int .i64 x11_3] rfl tm_ ?_; (with_reducible refine (impl_flow_edge.calls kj9 g x1000_3 s0_1 x1002_3 x9_2 x11_3 t365 t366 t367 w0 _ ?side1 ?side2 A15.out).mono ?_); (case side1 => exact IsF109.is (by repeat (first | (with_reducible first | exact HI0.out | apply IsF109.alloc | apply IsF109.drewN | apply IsF109.drew) | exact HI0.out)) HD.out HU.out); (case side2 => repeat (first | (with_reducible first | exact HB.out | apply below_alloc | apply pw_below_drewN | apply below_drew1) | exact HB.out)); rintro e w24 ⟨rfl, hi, hb, hk⟩; refine ⟨_, rfl, ?_⟩; replace HO_7 := Aside0.mk (Kd.S_mono (Kd.S_keep (IsS109.apartS (show IsS109 w0 _ g x1000_3 s0_1 x1002_3 from IsF109.is (by repeat (first | (with_reducible first | exact HI0.out | apply IsF109.alloc | apply IsF109.drewN | apply IsF109.drew) | exact HI0.out)) HD.out HU.out) (sa HO_7.out) (by decide)) (hk g) (fun _ h => h.2)) (fun _ h => h.1)); replace HO_8 := Aside0.mk (Kd.R_mono (Kd.R_keep (IsS109.apart (show IsS109 w0 _ g x1000_3 s0_1 x1002_3 from IsF109.is (by repeat (first | (with_reducible first | exact HI0.out | apply IsF109.alloc | apply IsF109.drewN | apply IsF109.drew) | exact HI0.out)) HD.out HU.out) (ra HO_8.out) (by decide)) (hk g) (fun _ h => h.2)) (fun _ h => h.1)); replace HK := Aside0.mk (KeepSz.trans (by repeat (first | (with_reducible first | exact HK.out | apply keepS_drewN | apply keepS_drew | apply keepS_alloc) | exact HK.out)) (KeepSz.of_all hk) (.inl rfl)); replace HI0 := Aside0.mk (IsF109.after (by repeat (first | (with_reducible first | exact HI0.out | apply IsF109.alloc | apply IsF109.drewN | apply IsF109.drew) | exact HI0.out)) hi hk); replace HB := Aside0.mk (hb); clear hb hk hi))
          go_roundg kj9
          case measure => have := HK1.out; have := HK2.out; have := HK3.out; have := HJ9.out; omega
          case rel => exact ⟨(x10_3), (wrap64 (x11_3 + 1)), (t367), x1002_3, w0, (by first | rfl | (simp; done) | (simp [*]; done)), (by first | rfl | (simp; done) | (simp [*]; done)), H', ⟨by have := HK1.out; have := HK2.out; have := HK3.out; have := HJ9.out; omega⟩, ⟨by (with_reducible repeat (first | apply Kd.S_alloc | apply Kd.S_drewN | apply Kd.S_drew)); exact HO_7.out⟩, ⟨ra HO_8.out⟩, ⟨by repeat (first | (with_reducible first | exact HI0.out | apply IsF109.alloc | apply IsF109.drewN | apply IsF109.drew) | exact HI0.out)⟩, HU, HD, ⟨by repeat (first | (with_reducible first | exact HK.out | apply keepS_drewN | apply keepS_drew | apply keepS_alloc) | exact HK.out)⟩, ⟨by repeat (first | (with_reducible first | exact HB.out | apply below_alloc | apply pw_below_drewN | apply below_drew1) | exact HB.out)⟩⟩
         rw [if_pos c16] at H
         have c16b0 : decide (0 ≤ t365) = true := decide_eq_true c16
         clear c16
         by_cases c17 : 0 ≤ t365
         rotate_left
         ·rw [if_neg c17] at H
          exact absurd H (by simp)
         rw [if_pos c17] at H
         have c17b0 : decide (0 ≤ t365) = true := decide_eq_true c17
         clear c17
         by_cases c18 : t365 < (x1002_3.length : Int)
         rotate_left
         ·rw [if_neg c18] at H
          exact absurd H (by simp)
         rw [if_pos c18] at H
         have c18b0 : decide (t365 < (x1002_3.length : Int)) = true := decide_eq_true c18
         clear c18
         by_cases c19 : (rd x1002_3 t365) = t366
         rotate_left
         ·rw [if_neg c19] at H
          have c19b0 : ((rd x1002_3 t365) == t366) = false := beq_eq_false_iff_ne.mpr c19
          have c19b1 : ((rd x1002_3 t365) != t366) = true := bne_iff_ne.mpr c19
          have H' := Aside0.mk H
          clear H
          go_wp2_with (first | ((with_reducible refine gate_dst (N := 36) rfl ?_); refine goesL_ (some 36) rfl rfl Try.func121 (by kernel_rfl) rfl #[.pointer (some ⟨g, 0, none⟩), .int .i64 x9_2, .int .i64 x11_3] rfl tm_ ?_; (with_reducible refine (impl_flow_edge.calls kj9 g x1000_3 s0_1 x1002_3 x9_2 x11_3 t365 t366 t367 w0 _ ?side1 ?side2 A15.out).mono ?_); (case side1 => exact IsF109.is (by repeat (first | (with_reducible first | exact HI0.out | apply IsF109.alloc | apply IsF109.drewN | apply IsF109.drew) | exact HI0.out)) HD.out HU.out); (case side2 => repeat (first | (with_reducible first | exact HB.out | apply below_alloc | apply pw_below_drewN | apply below_drew1) | exact HB.out)); rintro e w22 ⟨rfl, hi, hb, hk⟩; refine ⟨_, rfl, ?_⟩; replace HO_7 := Aside0.mk (Kd.S_mono (Kd.S_keep (IsS109.apartS (show IsS109 w0 _ g x1000_3 s0_1 x1002_3 from IsF109.is (by repeat (first | (with_reducible first | exact HI0.out | apply IsF109.alloc | apply IsF109.drewN | apply IsF109.drew) | exact HI0.out)) HD.out HU.out) (sa HO_7.out) (by decide)) (hk g) (fun _ h => h.2)) (fun _ h => h.1)); replace HO_8 := Aside0.mk (Kd.R_mono (Kd.R_keep (IsS109.apart (show IsS109 w0 _ g x1000_3 s0_1 x1002_3 from IsF109.is (by repeat (first | (with_reducible first | exact HI0.out | apply IsF109.alloc | apply IsF109.drewN | apply IsF109.drew) | exact HI0.out)) HD.out HU.out) (ra HO_8.out) (by decide)) (hk g) (fun _ h => h.2)) (fun _ h => h.1)); replace HK := Aside0.mk (KeepSz.trans (by repeat (first | (with_reducible first | exact HK.out | apply keepS_drewN | apply keepS_drew | apply keepS_alloc) | exact HK.out)) (KeepSz.of_all hk) (.inl rfl)); replace HI0 := Aside0.mk (IsF109.after (by repeat (first | (with_reducible first | exact HI0.out | apply IsF109.alloc | apply IsF109.drewN | apply IsF109.drew) | exact HI0.out)) hi hk); replace HB := Aside0.mk (hb); clear hb hk hi; obtain ⟨ASz23_1, cSz23_1, HGz23, hgz23, HSz23_1⟩ := HI0.out; have hcz23_0 := cellS109_0 HGz23; have hcz23_1 := cellS109_1 HGz23; have hcz23_2 := cellS109_2 HGz23; have hfz23_0 := blk_frozen HGz23 0; clear HGz23 hgz23; have p368 : 0 ≤ (t365 : Int) := od_; have q368 : t365 < (x1002_3.length : Int) := od_; obtain ⟨ad368, e368, hx368_0⟩ := Kd.at_int (Kd.R_reads' HU.out).2.2 t365 p368 q368; cases e368; replace hx368_0 := pw_cell_below HB.out hx368_0; replace p368 := eq_true p368; replace q368 := eq_true q368))
          go_roundg kj9
          case measure => have := HK1.out; have := HK2.out; have := HK3.out; have := HJ9.out; omega
          case rel => exact ⟨(x10_3), (wrap64 (x11_3 + 1)), (t367), x1002_3, w0, (by first | rfl | (simp; done) | (simp [*]; done)), (by first | rfl | (simp; done) | (simp [*]; done)), H', ⟨by have := HK1.out; have := HK2.out; have := HK3.out; have := HJ9.out; omega⟩, ⟨by (with_reducible repeat (first | apply Kd.S_alloc | apply Kd.S_drewN | apply Kd.S_drew)); exact HO_7.out⟩, ⟨ra HO_8.out⟩, ⟨by repeat (first | (with_reducible first | exact HI0.out | apply IsF109.alloc | apply IsF109.drewN | apply IsF109.drew) | exact HI0.out)⟩, HU, HD, ⟨by repeat (first | (with_reducible first | exact HK.out | apply keepS_drewN | apply keepS_drew | apply keepS_alloc) | exact HK.out)⟩, ⟨by repeat (first | (with_reducible first | exact HB.out | apply below_alloc | apply pw_below_drewN | apply below_drew1) | exact HB.out)⟩⟩
         rw [if_pos c19] at H
         have c19b0 : ((rd x1002_3 t365) == t366) = true := beq_iff_eq.mpr c19
         have c19b1 : ((rd x1002_3 t365) != t366) = false := bne_eq_false_iff_eq.mpr c19
         clear c19
         have H' := Aside0.mk H
         clear H
         have pz12 : 0 ≤ (t365 : Int) := od_
         have qz12 : (t365 : Int) < (x1002_3.length : Int) := od_
         obtain ⟨go12, co12, eo12, gb12, gl12, cl12, HG12⟩ := Kd.R_form HU.out (by omega)
         clear pz12 qz12
         (first | cases eo12 | (injection eo12 with ea_ en_ ec_; (first | subst ea_ | (injection ea_ with ea_; subst ea_)); subst ec_; clear en_))
         have GB12 := Aside0.mk gb12
         have GL12 := Aside0.mk gl12
         clear gb12 gl12 HG12
         go_wp2_with (first | ((with_reducible refine gate_dst (N := 36) rfl ?_); refine goesL_ (some 36) rfl rfl Try.func121 (by kernel_rfl) rfl #[.pointer (some ⟨g, 0, none⟩), .int .i64 x9_2, .int .i64 x11_3] rfl tm_ ?_; (with_reducible refine (impl_flow_edge.calls kj9 g x1000_3 s0_1 x1002_3 x9_2 x11_3 t365 t366 t367 w0 _ ?side1 ?side2 A15.out).mono ?_); (case side1 => exact IsF109.is (by repeat (first | (with_reducible first | exact HI0.out | apply IsF109.alloc | apply IsF109.drewN | apply IsF109.drew) | exact HI0.out)) HD.out HU.out); (case side2 => repeat (first | (with_reducible first | exact HB.out | apply below_alloc | apply pw_below_drewN | apply below_drew1) | exact HB.out)); rintro e w20 ⟨rfl, hi, hb, hk⟩; refine ⟨_, rfl, ?_⟩; replace HO_7 := Aside0.mk (Kd.S_mono (Kd.S_keep (IsS109.apartS (show IsS109 w0 _ g x1000_3 s0_1 x1002_3 from IsF109.is (by repeat (first | (with_reducible first | exact HI0.out | apply IsF109.alloc | apply IsF109.drewN | apply IsF109.drew) | exact HI0.out)) HD.out HU.out) (sa HO_7.out) (by decide)) (hk g) (fun _ h => h.2)) (fun _ h => h.1)); replace HO_8 := Aside0.mk (Kd.R_mono (Kd.R_keep (IsS109.apart (show IsS109 w0 _ g x1000_3 s0_1 x1002_3 from IsF109.is (by repeat (first | (with_reducible first | exact HI0.out | apply IsF109.alloc | apply IsF109.drewN | apply IsF109.drew) | exact HI0.out)) HD.out HU.out) (ra HO_8.out) (by decide)) (hk g) (fun _ h => h.2)) (fun _ h => h.1)); replace HK := Aside0.mk (KeepSz.trans (by repeat (first | (with_reducible first | exact HK.out | apply keepS_drewN | apply keepS_drew | apply keepS_alloc) | exact HK.out)) (KeepSz.of_all hk) (.inl rfl)); replace HI0 := Aside0.mk (IsF109.after (by repeat (first | (with_reducible first | exact HI0.out | apply IsF109.alloc | apply IsF109.drewN | apply IsF109.drew) | exact HI0.out)) hi hk); replace HB := Aside0.mk (hb); clear hb hk hi; obtain ⟨ASz21_1, cSz21_1, HGz21, hgz21, HSz21_1⟩ := HI0.out; have hcz21_0 := cellS109_0 HGz21; have hcz21_1 := cellS109_1 HGz21; have hcz21_2 := cellS109_2 HGz21; have hfz21_0 := blk_frozen HGz21 0; have GZ_ := Aside0.mk hgz21; clear HGz21 hgz21; have p12 : 0 ≤ (t365 : Int) := od_; have q12 : (t365 : Int) < ((x1002_3.length : Int) : Int) := od_; obtain ⟨hx12_0, hf12_0⟩ := Kd.R_celln 0 (Kd.R_below HU.out HB.out) (t365 : Int) p12 q12; replace hx12_0 : World.cell? _ _ = some (.int .i64 (rd x1002_3 t365)) := hx12_0; replace p12 := eq_true p12; replace q12 := eq_true q12) | ((with_reducible refine gate_store (t := 3) (p := 58) rfl ?_); refine store_event (t := 3) (p := 58) (v := ?vo_) (w1 := (w20.setCell ⟨go12, (t365 : Int).toNat, none⟩ (.int .i64 0))) ?hg ?ho ?hn ?hr ?_; (case ho => rfl); (case hg => rfl); (case hn => rfl); (case hr => first | (go_simp; done) | (go_simp; rfl)); intro wn_ hw; have hsz_ : KeepSz w20 wn_ g none := (by rw [hw]; show _ ≤ _; rw [World.size_set_]; exact Nat.le_refl _); have hne_ : go12 ≠ g := (by have := GL12.out; have := GZ_.out; omega); have hlw_ : go12 < w.heap.size := (by have := GL12.out; have := GZ_.out; have := HGL.out; omega); replace HO_7 := Aside0.mk ((by rw [hw]; exact Kd.S_mono (Kd.S_far (p := ⟨go12, (t365 : Int).toNat, none⟩) (Kd.S_bound HO_7.out) (fun k hk => (by have := hk.2.1; show k ≠ go12; omega)) _) (fun _ hk => hk.1)) : Kd.S (Kd.slice 3 (Kd.int .i64)) 24 wn_ w.heap.size (fun k_ => some k_ ≠ (u8 : Value).ownBlock) u7 x7_1); replace HO_8 := Aside0.mk ((by rw [hw]; exact Kd.R_mono (Kd.R_far (p := ⟨go12, (t365 : Int).toNat, none⟩) (Kd.R_bound HO_8.out) (fun k hk => (by have := hk.2.1; show k ≠ go12; omega)) _) (fun _ hk => hk.1)) : Kd.R (Kd.int .i64) 3 wn_ w.heap.size (fun _ => True) u8 x8_2); replace HI0 := Aside0.mk ((by rw [hw]; exact IsF109.put (by repeat (first | (with_reducible first | exact HI0.out | apply IsF109.alloc | apply IsF109.drewN | apply IsF109.drew) | exact HI0.out)) ⟨go12, (t365 : Int).toNat, none⟩ hne_ _ _ _) : IsF109 wb (w0.setCell ⟨go12, (t365 : Int).toNat, none⟩ (.int .i64 0)) wn_ g t367 s0_1 (some ⟨go12, 0, none⟩) c2 (x1002_3.set t365.toNat 0)); replace HU := Aside0.mk ((by rw [List.length_set]; exact (Kd.R_putg HU.out (t365 : Int) 0).1) : Kd.R (Kd.int .i64) 3 (w0.setCell ⟨go12, (t365 : Int).toNat, none⟩ (.int .i64 0)) wb.heap.size ok (.slice (some ⟨go12, 0, none⟩) (x1002_3.set t365.toNat 0).length c2) (x1002_3.set t365.toNat 0)); replace HD := Aside0.mk ((below_set HD.out GB12.out) : Below wb.heap.size wb (w0.setCell ⟨go12, (t365 : Int).toNat, none⟩ (.int .i64 0))); replace HB := Aside0.mk ((by rw [hw, World.size_set_]; exact Below.both HB.out _ _) : Below (w0.setCell ⟨go12, (t365 : Int).toNat, none⟩ (.int .i64 0)).heap.size (w0.setCell ⟨go12, (t365 : Int).toNat, none⟩ (.int .i64 0)) wn_); replace HK := Aside0.mk (KeepSz.trans HK.out hsz_ (.inl rfl)); clear hw hsz_ hne_ hlw_))
         go_roundg kj9
         case measure => have := HK1.out; have := HK2.out; have := HK3.out; have := HJ9.out; omega
         case rel => exact ⟨(x11_3), (wrap64 (x11_3 + 1)), (t367), _, _, (by first | rfl | (simp; done) | (simp [*]; done)), (by first | rfl | (simp; done) | (simp [*]; done)), H', ⟨by have := HK1.out; have := HK2.out; have := HK3.out; have := HJ9.out; omega⟩, ⟨by (with_reducible repeat (first | apply Kd.S_alloc | apply Kd.S_drewN | apply Kd.S_drew)); exact HO_7.out⟩, ⟨ra HO_8.out⟩, ⟨by repeat (first | (with_reducible first | exact HI0.out | apply IsF109.alloc | apply IsF109.drewN | apply IsF109.drew) | exact HI0.out)⟩, HU, HD, ⟨by repeat (first | (with_reducible first | exact HK.out | apply keepS_drewN | apply keepS_drew | apply keepS_alloc) | exact HK.out)⟩, ⟨by repeat (first | (with_reducible first | exact HB.out | apply below_alloc | apply pw_below_drewN | apply below_drew1) | exact HB.out)⟩⟩

def impl_waysApart.f (k : Nat) (a0 : Int) (l1 : List (S47)) (a2 : Int) (a3 : Int) : Option ((List (List Int))) := (impl_flowOf.f k a0 l1 a2 a3).bind fun bt372 => ((impl_flow_ways.f k bt372.1 bt372.2.1 bt372.2.2 a2 a3).bind fun bt376 => (some bt376.1))
theorem impl_waysApart.mono : ∀ a0 a1 a2 a3 k, LeO (impl_waysApart.f k a0 a1 a2 a3) (impl_waysApart.f (k + 1) a0 a1 a2 a3) := by
 intro a0 a1 a2 a3 k
 unfold impl_waysApart.f
 repeat' first
   | (with_reducible exact impl_flow_ways.mono _ _ _ _ _ _)
   | (with_reducible exact impl_flowOf.mono _ _ _ _ _)
   | with_reducible first | exact LeO.refl _ | exact LeO.none _ | refine LeO.ite ?_ ?_ | refine LeO.bind ?_ fun _ => ?_
set_option maxHeartbeats 8000000 in
set_option maxRecDepth 100000 in
theorem impl_waysApart.calls (k : Nat) (a0 : Int) (A1 : Option Addr) (c1 : Nat) (l1 : List (S47)) (a2 : Int) (a3 : Int) (r : List (List Int)) (w : World) (hr1 : Kd.C k47 w A1 l1.length l1) (hc1 : l1.length ≤ c1) (h : impl_waysApart.f k a0 l1 a2 a3 = some r) :
  Calls Try.prog 66 #[.int .i64 a0, .slice A1 l1.length c1, .int .i64 a2, .int .i64 a3] w fun e w' => ∃ v0_ : Value, e = .returned (v0_) ∧ Kd.S (Kd.slice 3 (Kd.int .i64)) 24 w' w.heap.size (fun _ => True) v0_ r ∧ Below w.heap.size w w' := by
 have HR1 := Aside0.mk hr1
 have HC1 := Aside0.mk hc1
 clear hr1 hc1
 have HB := Aside0.mk (Below.refl w.heap.size w)
 have H : ((impl_flowOf.f k a0 l1 a2 a3).bind fun bt372 => ((impl_flow_ways.f k bt372.1 bt372.2.1 bt372.2.2 a2 a3).bind fun bt376 => (some bt376.1))) = some r := h
 clear h
 replace H := Option.bind_eq_some_iff.mp H
 obtain ⟨⟨t372, t373, t374⟩, A50, H⟩ := H
 replace H : ((impl_flow_ways.f k t372 t373 t374 a2 a3).bind fun bt376 => (some bt376.1)) = some r := H
 have A5 := Aside0.mk A50
 clear A50
 replace H := Option.bind_eq_some_iff.mp H
 obtain ⟨⟨t376, t379⟩, A60, H⟩ := H
 replace H : (some t376) = some r := H
 have A6 := Aside0.mk A60
 clear A60
 obtain rfl := Option.some.inj H
 go_enter Try.func66, Try.ntmps66
 go_wp2_with (first | ((with_reducible refine gate_dst (N := 13) rfl ?_); refine goesL_ (some 13) rfl rfl Try.func62 (by kernel_rfl) rfl #[.int .i64 a0, .slice A1 l1.length c1, .int .i64 a2, .int .i64 a3] rfl tm_ ?_; (with_reducible refine (impl_flowOf.callsO k a0 _ _ l1 a2 a3 t372 t373 t374 _ ?side2 ?side3 A5.out).mono ?_); (case side2 => exact cb_ HR1 HB); (case side3 => exact HC1.out); rintro e w7 ⟨g375, wg, Ag, cg, rfl, hi, hu, hbg, hb⟩; refine ⟨_, rfl, ?_⟩; obtain ⟨wq, HI0, HU, HD, HBW⟩ : ∃ wq, Aside0 (IsF109 wq wg w7 g375 t372 t373 Ag cg t374) ∧ Aside0 (Kd.R (Kd.int .i64) 3 wg wq.heap.size (fun _ => True) (.slice Ag t374.length cg) t374) ∧ Aside0 (Below wq.heap.size wq wg) ∧ Aside0 (Below w.heap.size w wq) := ⟨_, ⟨hi⟩, ⟨hu⟩, ⟨hbg⟩, ⟨hB HB⟩⟩; clear HB; have HB := Aside0.mk hb; clear hi hu hbg hb) | ((with_reducible refine gate_dst (N := 16) rfl ?_); refine goesL_ (some 16) rfl rfl Try.func109 (by kernel_rfl) rfl #[.pointer (some ⟨g375, 0, none⟩), .int .i64 a2, .int .i64 a3] rfl tm_ ?_; (with_reducible refine (impl_flow_ways.calls k g375 t372 t373 t374 a2 a3 t376 t379 Ag cg (fun _ => True) wq wg _ ?side1 ?side2 ?side3 ?side4 A6.out).mono ?_); (case side1 => repeat (first | (with_reducible first | exact HI0.out | apply IsF109.alloc | apply IsF109.drewN | apply IsF109.drew) | exact HI0.out)); (case side2 => exact HU.out); (case side3 => exact HD.out); (case side4 => repeat (first | (with_reducible first | exact HB.out | apply below_alloc | apply pw_below_drewN | apply below_drew1) | exact HB.out)); rintro e w8 ⟨v377, rfl, ho0, hb⟩; refine ⟨_, rfl, ?_⟩; have HO378 := Aside0.mk (Kd.S_lower ho0 (Nat.le_trans HBW.out.size (Nat.le_trans HD.out.size (below_size (by repeat (first | (with_reducible first | exact HB.out | apply below_alloc | apply pw_below_drewN | apply below_drew1) | exact HB.out)))))); replace HB := bst_ HBW hb; clear hb ho0))
 go_ret
 exact ⟨_, rt_, by (with_reducible repeat (first | apply Kd.S_alloc | apply Kd.S_drewN | apply Kd.S_drew)); exact HO378.out, by repeat (first | (with_reducible first | exact HB.out | apply below_alloc | apply pw_below_drewN | apply below_drew1) | exact HB.out)⟩

def impl_WaysApart.f (k : Nat) (a0 : Int) (l1 : List (S47)) (a2 : Int) (a3 : Int) : Option ((List (List Int)) × Bool) := (impl_goodAt.f k a0 l1 (([a2, a3] : List Int))).bind fun t383 => (if t383 = true then (if a2 = a3 then (some (([] : List (List Int)), false)) else ((impl_waysApart.f k a0 l1 a2 a3).bind fun t384 => (some (t384, true)))) else (some (([] : List (List Int)), false)))
theorem impl_WaysApart.mono : ∀ a0 a1 a2 a3 k, LeO (impl_WaysApart.f k a0 a1 a2 a3) (impl_WaysApart.f (k + 1) a0 a1 a2 a3) := by
 intro a0 a1 a2 a3 k
 unfold impl_WaysApart.f
 repeat' first
   | (with_reducible exact impl_goodAt.mono _ _ _ _)
   | (with_reducible exact impl_waysApart.mono _ _ _ _ _)
   | with_reducible first | exact LeO.refl _ | exact LeO.none _ | refine LeO.ite ?_ ?_ | refine LeO.bind ?_ fun _ => ?_
set_option maxHeartbeats 8000000 in
set_option maxRecDepth 100000 in
theorem impl_WaysApart.calls (k : Nat) (a0 : Int) (A1 : Option Addr) (c1 : Nat) (l1 : List (S47)) (a2 : Int) (a3 : Int) (r1 : List (List Int)) (r2 : Bool) (w : World) (hr1 : Kd.C k47 w A1 l1.length l1) (hc1 : l1.length ≤ c1) (h : impl_WaysApart.f k a0 l1 a2 a3 = some (r1, r2)) :
  Calls Try.prog 21 #[.int .i64 a0, .slice A1 l1.length c1, .int .i64 a2, .int .i64 a3] w fun e w' => ∃ v0_ : Value, e = .returned (.tuple #[v0_, .bool r2]) ∧ Kd.S (Kd.slice 3 (Kd.int .i64)) 24 w' w.heap.size (fun _ => True) v0_ r1 ∧ Below w.heap.size w w' := by
 have HR1 := Aside0.mk hr1
 have HC1 := Aside0.mk hc1
 clear hr1 hc1
 have HB := Aside0.mk (Below.refl w.heap.size w)
 have H : ((impl_goodAt.f k a0 l1 (([a2, a3] : List Int))).bind fun t383 => (if t383 = true then (if a2 = a3 then (some (([] : List (List Int)), false)) else ((impl_waysApart.f k a0 l1 a2 a3).bind fun t384 => (some (t384, true)))) else (some (([] : List (List Int)), false)))) = some (r1, r2) := h
 clear h
 obtain ⟨y380, hy380⟩ : ∃ y_ : List Int, y_ = (([a2, a3] : List Int)) := ⟨_, rfl⟩
 replace H : ((impl_goodAt.f k a0 l1 y380).bind fun t383 => (if t383 = true then (if a2 = a3 then (some (([] : List (List Int)), false)) else ((impl_waysApart.f k a0 l1 a2 a3).bind fun t384 => (some (t384, true)))) else (some (([] : List (List Int)), false)))) = some (r1, r2) := by first | (rw [hy380]; with_reducible exact H) | (have H2_ := (Option.bind_some _ _).symm.trans H; rw [hy380]; with_reducible exact H2_) | (have H2_ := (Option.bind_some _ _).symm.trans H; with_reducible exact H2_) | with_reducible exact H | (rw [hy380]; exact H) | exact H
 have Ny380 := Aside0.mk hy380
 clear hy380
 replace H := Option.bind_eq_some_iff.mp H
 obtain ⟨t383, A50, H⟩ := H
 replace H : (if t383 = true then (if a2 = a3 then (some (([] : List (List Int)), false)) else ((impl_waysApart.f k a0 l1 a2 a3).bind fun t384 => (some (t384, true)))) else (some (([] : List (List Int)), false))) = some (r1, r2) := H
 have A5 := Aside0.mk A50
 clear A50
 by_cases c6 : t383 = true
 rotate_left
 ·replace c6 := Bool.eq_false_iff.mpr c6
  subst c6
  rw [if_neg (show ¬ (false = true) by decide)] at H
  simp only [Option.some.injEq, Prod.mk.injEq] at H
  obtain ⟨rfl, rfl⟩ := H
  go_enter Try.func21, Try.ntmps21
  go_wp2_with (first | ((with_reducible refine gate_dst (N := 14) rfl ?_); refine Kd.R_lit (Kd.int .i64) _ 3 ?hg (N := 14) ?hd (xs := ([a2, a3] : List Int)) (inner := [.int .i64 a2, .int .i64 a3]) (ok := fun _ => True) (okp := fun _ => True) ?hr ?hp (fun _ hk => hk) trivial (Below.refl _ _) (Nat.le_refl _) (by simp) ?_; (case hd => rfl); (case hg => rfl); (case hr => first | (go_simp; done) | (go_simp; rfl)); (case hp => exact (Reps.one (show Kd.M (Kd.int .i64) _ _ _ a2 [.int .i64 a2] from rfl) (Reps.one (show Kd.M (Kd.int .i64) _ _ _ a3 [.int .i64 a3] from rfl) (Reps.none _ _)))); intro v381 w18 ho19 hb hg_ hnew_; clear hg_ hnew_; (first | rw [← Ny380.out] at ho19 | (simp only [Int.reduceToNat] at ho19; rw [← Ny380.out] at ho19)); have HO382 := Aside0.mk (Kd.R_lower ho19 (below_size (hB HB))); replace HB := bst_ HB hb; clear hb ho19; obtain ⟨Ao20, co20, eo20⟩ := Kd.R_slice HO382.out; subst eo20) | ((with_reducible refine gate_dst (N := 15) rfl ?_); refine goesL_ (some 15) rfl rfl Try.func61 (by kernel_rfl) rfl #[.int .i64 a0, .slice A1 l1.length c1, .slice Ao20 y380.length co20] rfl tm_ ?_; (with_reducible refine (impl_goodAt.calls k a0 _ _ l1 _ _ y380 false _ ?side1 ?side2 ?side3 ?side4 A5.out).mono ?_); (case side1 => exact cb_ HR1 HB); (case side2 => exact HC1.out); (case side3 => exact ca (Kd.R_reads' HO382.out).2.2); (case side4 => exact (Kd.R_reads' HO382.out).2.1); rintro e w21 ⟨rfl, hb⟩; refine ⟨_, rfl, ?_⟩; replace HO382 := rb_ HO382 hb; replace HB := bst_ HB hb; clear hb))
  go_ret2
  exact ⟨_, rt_, by first | exact Kd.S_nil _ _ _ _ _ | exact Kd.N_nil _ _ _ _ _ | exact Kd.V_nil _ _ _ _ _ | exact Kd.Q_nil _ _ _ _ _ | exact Kd.R_nil _ _ _ _ _, hB HB⟩
 subst c6
 rw [if_pos rfl] at H
 by_cases c7 : a2 = a3
 ·rw [if_pos c7] at H
  have c7b0 : (a2 == a3) = true := beq_iff_eq.mpr c7
  have c7b1 : (a2 != a3) = false := bne_eq_false_iff_eq.mpr c7
  clear c7
  simp only [Option.some.injEq, Prod.mk.injEq] at H
  obtain ⟨rfl, rfl⟩ := H
  go_enter Try.func21, Try.ntmps21
  go_wp2_with (first | ((with_reducible refine gate_dst (N := 14) rfl ?_); refine Kd.R_lit (Kd.int .i64) _ 3 ?hg (N := 14) ?hd (xs := ([a2, a3] : List Int)) (inner := [.int .i64 a2, .int .i64 a3]) (ok := fun _ => True) (okp := fun _ => True) ?hr ?hp (fun _ hk => hk) trivial (Below.refl _ _) (Nat.le_refl _) (by simp) ?_; (case hd => rfl); (case hg => rfl); (case hr => first | (go_simp; done) | (go_simp; rfl)); (case hp => exact (Reps.one (show Kd.M (Kd.int .i64) _ _ _ a2 [.int .i64 a2] from rfl) (Reps.one (show Kd.M (Kd.int .i64) _ _ _ a3 [.int .i64 a3] from rfl) (Reps.none _ _)))); intro v381 w8 ho9 hb hg_ hnew_; clear hg_ hnew_; (first | rw [← Ny380.out] at ho9 | (simp only [Int.reduceToNat] at ho9; rw [← Ny380.out] at ho9)); have HO382 := Aside0.mk (Kd.R_lower ho9 (below_size (hB HB))); replace HB := bst_ HB hb; clear hb ho9; obtain ⟨Ao10, co10, eo10⟩ := Kd.R_slice HO382.out; subst eo10) | ((with_reducible refine gate_dst (N := 15) rfl ?_); refine goesL_ (some 15) rfl rfl Try.func61 (by kernel_rfl) rfl #[.int .i64 a0, .slice A1 l1.length c1, .slice Ao10 y380.length co10] rfl tm_ ?_; (with_reducible refine (impl_goodAt.calls k a0 _ _ l1 _ _ y380 true _ ?side1 ?side2 ?side3 ?side4 A5.out).mono ?_); (case side1 => exact cb_ HR1 HB); (case side2 => exact HC1.out); (case side3 => exact ca (Kd.R_reads' HO382.out).2.2); (case side4 => exact (Kd.R_reads' HO382.out).2.1); rintro e w11 ⟨rfl, hb⟩; refine ⟨_, rfl, ?_⟩; replace HO382 := rb_ HO382 hb; replace HB := bst_ HB hb; clear hb))
  go_ret2
  exact ⟨_, rt_, by first | exact Kd.S_nil _ _ _ _ _ | exact Kd.N_nil _ _ _ _ _ | exact Kd.V_nil _ _ _ _ _ | exact Kd.Q_nil _ _ _ _ _ | exact Kd.R_nil _ _ _ _ _, hB HB⟩
 rw [if_neg c7] at H
 have c7b0 : (a2 == a3) = false := beq_eq_false_iff_ne.mpr c7
 have c7b1 : (a2 != a3) = true := bne_iff_ne.mpr c7
 replace H := Option.bind_eq_some_iff.mp H
 obtain ⟨t384, A120, H⟩ := H
 replace H : (some (t384, true)) = some (r1, r2) := H
 have A12 := Aside0.mk A120
 clear A120
 simp only [Option.some.injEq, Prod.mk.injEq] at H
 obtain ⟨rfl, rfl⟩ := H
 go_enter Try.func21, Try.ntmps21
 go_wp2_with (first | ((with_reducible refine gate_dst (N := 14) rfl ?_); refine Kd.R_lit (Kd.int .i64) _ 3 ?hg (N := 14) ?hd (xs := ([a2, a3] : List Int)) (inner := [.int .i64 a2, .int .i64 a3]) (ok := fun _ => True) (okp := fun _ => True) ?hr ?hp (fun _ hk => hk) trivial (Below.refl _ _) (Nat.le_refl _) (by simp) ?_; (case hd => rfl); (case hg => rfl); (case hr => first | (go_simp; done) | (go_simp; rfl)); (case hp => exact (Reps.one (show Kd.M (Kd.int .i64) _ _ _ a2 [.int .i64 a2] from rfl) (Reps.one (show Kd.M (Kd.int .i64) _ _ _ a3 [.int .i64 a3] from rfl) (Reps.none _ _)))); intro v381 w13 ho14 hb hg_ hnew_; clear hg_ hnew_; (first | rw [← Ny380.out] at ho14 | (simp only [Int.reduceToNat] at ho14; rw [← Ny380.out] at ho14)); have HO382 := Aside0.mk (Kd.R_lower ho14 (below_size (hB HB))); replace HB := bst_ HB hb; clear hb ho14; obtain ⟨Ao15, co15, eo15⟩ := Kd.R_slice HO382.out; subst eo15) | ((with_reducible refine gate_dst (N := 15) rfl ?_); refine goesL_ (some 15) rfl rfl Try.func61 (by kernel_rfl) rfl #[.int .i64 a0, .slice A1 l1.length c1, .slice Ao15 y380.length co15] rfl tm_ ?_; (with_reducible refine (impl_goodAt.calls k a0 _ _ l1 _ _ y380 true _ ?side1 ?side2 ?side3 ?side4 A5.out).mono ?_); (case side1 => exact cb_ HR1 HB); (case side2 => exact HC1.out); (case side3 => exact ca (Kd.R_reads' HO382.out).2.2); (case side4 => exact (Kd.R_reads' HO382.out).2.1); rintro e w16 ⟨rfl, hb⟩; refine ⟨_, rfl, ?_⟩; replace HO382 := rb_ HO382 hb; replace HB := bst_ HB hb; clear hb) | ((with_reducible refine gate_dst (N := 26) rfl ?_); refine goesL_ (some 26) rfl rfl Try.func66 (by kernel_rfl) rfl #[.int .i64 a0, .slice A1 l1.length c1, .int .i64 a2, .int .i64 a3] rfl tm_ ?_; (with_reducible refine (impl_waysApart.calls k a0 _ _ l1 a2 a3 t384 _ ?side1 ?side2 A12.out).mono ?_); (case side1 => exact cb_ HR1 HB); (case side2 => exact HC1.out); rintro e w17 ⟨v385, rfl, ho0, hb⟩; refine ⟨_, rfl, ?_⟩; have HO386 := Aside0.mk (Kd.S_lower (Kd.S_new' ho0 (rl_ HO382)) (below_size (hB HB))); replace HO382 := rb_ HO382 hb; replace HB := bst_ HB hb; clear hb ho0))
 go_ret2
 exact ⟨_, rt_, by (with_reducible repeat (first | apply Kd.S_alloc | apply Kd.S_drewN | apply Kd.S_drew)); exact Kd.S_mono HO386.out (fun _ hk => trivial), hB HB⟩

end Go.Proofs.Ythambdfgkfkcmaa.P
