import Derived.Test.YtolncjkfcmbieaaF0
import Derived.Test.YtolncjkfcmbieaaF9
namespace Go.Proofs.Ytolncjkfcmbieaa.P
open Go.RowKit Go.Proofs.YtolncjkfcmbieaaW.PrintWords Go.Proofs.YtolncjkfcmbieaaW.PrintLast Go.Proofs.YtolncjkfcmbieaaW.PrintMore
attribute [local go_sem] max2_int min2_int max_two min_two max_three min_three max_four min_four   -- for this text's walks alone
set_option linter.unusedVariables false
set_option linter.unusedSimpArgs false

def laws_heldIntS.l0 : Nat → List Int → Int → Int → Option (Int)
 | 0, _, _, _ => none
 | k + 1, x0, x1, x5 => if x5 < (x0.length : Int) then (if 0 ≤ x5 then (if (rd x0 x5) = x1 then (laws_heldIntS.l0 k x0 (wrap64 (x1 + 1)) (wrap64 (x5 + 1))) else (some (-1))) else (none)) else (some x1)
def laws_heldIntS.f (k : Nat) (l0 : List Int) (a1 : Int) : Option (Int) := laws_heldIntS.l0 k l0 a1 0
theorem laws_heldIntS.mono_l : ∀ k, (∀ y0 y1 y2, LeO (laws_heldIntS.l0 k y0 y1 y2) (laws_heldIntS.l0 (k + 1) y0 y1 y2))
 | 0 => fun _ _ _ r h => by simp [laws_heldIntS.l0] at h
 | k + 1 => by
  have ih0 := laws_heldIntS.mono_l k
  ·intro y0 y1 y2
   unfold laws_heldIntS.l0
   repeat' first
   | (with_reducible exact ih0 _ _ _)
   | (with_reducible exact LeO.refl _)
   | (with_reducible exact LeO.none _)
   | (with_reducible refine LeO.ite ?_ ?_)
   | (with_reducible refine LeO.bind ?_ (fun _ => ?_))
theorem laws_heldIntS.mono : ∀ a0 a1 k, LeO (laws_heldIntS.f k a0 a1) (laws_heldIntS.f (k + 1) a0 a1) := by
 intro a0 a1 k
 have ih0 := laws_heldIntS.mono_l k
 unfold laws_heldIntS.f
 repeat' first
   | (with_reducible exact ih0 _ _ _)
   | (with_reducible exact LeO.refl _)
   | (with_reducible exact LeO.none _)
   | (with_reducible refine LeO.ite ?_ ?_)
   | (with_reducible refine LeO.bind ?_ (fun _ => ?_))
set_option maxHeartbeats 8000000 in
set_option maxRecDepth 100000 in
theorem laws_heldIntS.calls (k : Nat) (A0 : Option Addr) (c0 : Nat) (l0 : List Int) (a1 : Int) (r : Int) (w : World) (hr0 : Kd.C (Kd.int .i64) w A0 l0.length l0) (hc0 : l0.length ≤ c0) (h : laws_heldIntS.f k l0 a1 = some r) :
  Calls Try.prog 23 #[.slice A0 l0.length c0, .int .i64 a1] w fun e w' => e = .returned (.int .i64 r) ∧ Drawn0 w w' := by
 have HR0 := Aside0.mk hr0
 have HC0 := Aside0.mk hc0
 clear hr0 hc0
 have H : (laws_heldIntS.l0 k l0 a1 0) = some r := h
 clear h
 have H' := Aside0.mk H
 clear H
 go_enter Try.func23, Try.ntmps23
 go_wp2
 go_loopg [1, 5] k (fun kq v1 v5 w' => ∃ (x1_1 : Int) (x5_1 : Int), v1 = .int .i64 x1_1 ∧ v5 = .int .i64 x5_1 ∧ Aside0 (laws_heldIntS.l0 kq l0 x1_1 x5_1 = some r) ∧ Aside0 (kq ≤ k) ∧ Drawn0 w w')
 case atStart => exact ⟨(a1), (0), (by first | rfl | (simp; done) | (simp [*]; done)), (by first | rfl | (simp; done) | (simp [*]; done)), H', ⟨Nat.le_refl _⟩, by repeat (first | exact Drawn0.refl _ | apply Drawn0.step)⟩
 case round =>
  clear H'
  obtain ⟨x1_1, x5_1, rfl, rfl, HA, HK1, ⟨m1, rfl⟩⟩ := hrel
  cases gk with
  | zero => exact absurd HA.out (by simp [laws_heldIntS.l0])
  | succ k1 =>
   have H := HA.out
   clear HA
   simp only [laws_heldIntS.l0] at H
   by_cases c3 : x5_1 < (l0.length : Int)
   rotate_left
   ·rw [if_neg c3] at H
    have c3b0 : decide (x5_1 < (l0.length : Int)) = false := decide_eq_false c3
    clear c3
    obtain rfl := Option.some.inj H
    go_wp2
    go_ret
    exact ⟨by first | rfl | (simp; done) | (simp [*]; done), by repeat (first | exact Drawn0.refl _ | apply Drawn0.step)⟩
   rw [if_pos c3] at H
   have c3b0 : decide (x5_1 < (l0.length : Int)) = true := decide_eq_true c3
   clear c3
   by_cases c4 : 0 ≤ x5_1
   rotate_left
   ·rw [if_neg c4] at H
    exact absurd H (by simp)
   rw [if_pos c4] at H
   have c4b0 : decide (0 ≤ x5_1) = true := decide_eq_true c4
   clear c4
   by_cases c5 : (rd l0 x5_1) = x1_1
   rotate_left
   ·rw [if_neg c5] at H
    have c5b0 : ((rd l0 x5_1) == x1_1) = false := beq_eq_false_iff_ne.mpr c5
    have c5b1 : ((rd l0 x5_1) != x1_1) = true := bne_iff_ne.mpr c5
    obtain rfl := Option.some.inj H
    have p338 : 0 ≤ (x5_1 : Int) := of_decide_eq_true (by first | (with_reducible assumption) | assumption)
    have q338 : x5_1 < (l0.length : Int) := of_decide_eq_true (by first | (with_reducible assumption) | assumption)
    obtain ⟨ad338, e338, hx338_0⟩ := Kd.at_int HR0.out x5_1 p338 q338
    cases e338
    replace p338 := eq_true p338
    replace q338 := eq_true q338
    go_wp2
    go_ret
    exact ⟨by first | rfl | (simp; done) | (simp [*]; done), by repeat (first | exact Drawn0.refl _ | apply Drawn0.step)⟩
   rw [if_pos c5] at H
   have c5b0 : ((rd l0 x5_1) == x1_1) = true := beq_iff_eq.mpr c5
   have c5b1 : ((rd l0 x5_1) != x1_1) = false := bne_eq_false_iff_eq.mpr c5
   clear c5
   have H' := Aside0.mk H
   clear H
   have p338 : 0 ≤ (x5_1 : Int) := of_decide_eq_true (by first | (with_reducible assumption) | assumption)
   have q338 : x5_1 < (l0.length : Int) := of_decide_eq_true (by first | (with_reducible assumption) | assumption)
   obtain ⟨ad338, e338, hx338_0⟩ := Kd.at_int HR0.out x5_1 p338 q338
   cases e338
   replace p338 := eq_true p338
   replace q338 := eq_true q338
   go_wp2
   go_roundg k1
   case measure => have := HK1.out; omega
   case rel => exact ⟨(wrap64 (x1_1 + 1)), (wrap64 (x5_1 + 1)), (by first | rfl | (simp; done) | (simp [*]; done)), (by first | rfl | (simp; done) | (simp [*]; done)), H', ⟨by have := HK1.out; omega⟩, by repeat (first | exact Drawn0.refl _ | apply Drawn0.step)⟩

-- NOT PRINTED: function 3 (laws_FnExactBackupFor)

def spec_l3Side.f (a0 : Int) : Option (Bool) := (spec_l1In.f a0 0 1).bind fun t368 => (some t368)
set_option maxHeartbeats 8000000 in
set_option maxRecDepth 100000 in
theorem spec_l3Side.calls (a0 : Int) (r : Bool) (w : World) (h : spec_l3Side.f a0 = some r) :
  Calls Try.prog 155 #[.int .i64 a0] w fun e w' => e = .returned (.bool r) ∧ Drawn0 w w' := by
 have H : ((spec_l1In.f a0 0 1).bind fun t368 => (some t368)) = some r := h
 clear h
 replace H := Option.bind_eq_some_iff.mp H
 obtain ⟨t368, A20, H⟩ := H
 replace H : (some t368) = some r := H
 have A2 := Aside0.mk A20
 clear A20
 obtain rfl := Option.some.inj H
 go_enter Try.func155, Try.ntmps155
 go_wp2_with (first | ((with_reducible refine gate_callee (f := 108) rfl ?_); refine goesL_ (some 4) rfl rfl Try.func108 (by kernel_rfl) rfl #[.int .i64 a0, .int .i64 0, .int .i64 1] rfl tm_ ?_; (with_reducible refine (spec_l1In.calls a0 0 1 t368 _ A2.out).mono ?_); rintro e w' ⟨rfl, ⟨nd, rfl⟩⟩; refine ⟨_, rfl, ?_⟩))
 go_ret
 exact ⟨by first | rfl | (simp; done) | (simp [*]; done), by repeat (first | exact Drawn0.refl _ | apply Drawn0.step)⟩

def spec_l3Tick.l0 : Nat → Int → Int → List Int → List Int → List (S127) → Option (List Int × List Int × (List (S127)))
 | 0, _, _, _, _, _ => none
 | k + 1, x6, x7, x379000, x379001, x379002 => if x7 < x6 then (if 0 ≤ x7 then (if x7 < (x379000.length : Int) then (if (rd x379000 x7) = 0 then (spec_l3Tick.l0 k x6 (wrap64 (x7 + 1)) x379000 x379001 x379002) else (if x7 < (x379001.length : Int) then ((some (x379001.set (x7 : Int).toNat (wrap64 ((rd x379001 x7) - 1)) : List Int)).bind fun y382 => (if (rd y382 x7) = 0 then (spec_l3Tick.l0 k x6 (wrap64 (x7 + 1)) (x379000.set (x7 : Int).toNat 0) y382 x379002) else (spec_l3Tick.l0 k x6 (wrap64 (x7 + 1)) x379000 y382 x379002))) else (none))) else (none)) else (none)) else (some (x379000, x379001, x379002))
def spec_l3Tick.f (k : Nat) (l0_0 : List Int) (l0_1 : List Int) (l0_2 : List (S127)) : Option (List Int × List Int × (List (S127))) := spec_l3Tick.l0 k (l0_0.length : Int) 0 l0_0 l0_1 l0_2
theorem spec_l3Tick.mono_l : ∀ k, (∀ y0 y1 y2 y3 y4, LeO (spec_l3Tick.l0 k y0 y1 y2 y3 y4) (spec_l3Tick.l0 (k + 1) y0 y1 y2 y3 y4))
 | 0 => fun _ _ _ _ _ r h => by simp [spec_l3Tick.l0] at h
 | k + 1 => by
  have ih0 := spec_l3Tick.mono_l k
  ·intro y0 y1 y2 y3 y4
   unfold spec_l3Tick.l0
   repeat' first
   | (with_reducible exact ih0 _ _ _ _ _)
   | (with_reducible exact LeO.refl _)
   | (with_reducible exact LeO.none _)
   | (with_reducible refine LeO.ite ?_ ?_)
   | (with_reducible refine LeO.bind ?_ (fun _ => ?_))
theorem spec_l3Tick.mono : ∀ a0 a1 a2 k, LeO (spec_l3Tick.f k a0 a1 a2) (spec_l3Tick.f (k + 1) a0 a1 a2) := by
 intro a0 a1 a2 k
 have ih0 := spec_l3Tick.mono_l k
 unfold spec_l3Tick.f
 repeat' first
   | (with_reducible exact ih0 _ _ _ _ _)
   | (with_reducible exact LeO.refl _)
   | (with_reducible exact LeO.none _)
   | (with_reducible refine LeO.ite ?_ ?_)
   | (with_reducible refine LeO.bind ?_ (fun _ => ?_))
set_option maxHeartbeats 8000000 in
set_option maxRecDepth 100000 in
theorem spec_l3Tick.calls (k : Nat) (P0_0_ : Nat → Prop) (u9000_ : Value) (l0_0 : List Int) (P0_1_ : Nat → Prop) (u9001_ : Value) (l0_1 : List Int) (P0_2_ : Nat → Prop) (u9002_ : Value) (l0_2 : List (S127)) (r1 : List Int) (r2 : List Int) (r3 : List (S127)) (w0 w : World) (hB : Below w0.heap.size w0 w) (ho0_0 : Kd.R (Kd.int .i64) 3 w w0.heap.size P0_0_ u9000_ l0_0) (hp0_0_0_1 : ∀ k_, P0_0_ k_ → ¬ P0_1_ k_) (ho0_1 : Kd.R (Kd.int .i64) 3 w w0.heap.size P0_1_ u9001_ l0_1) (hp0_1_0_0 : ∀ k_, P0_1_ k_ → ¬ P0_0_ k_) (ho0_2 : Kd.R k127 127 w w0.heap.size P0_2_ u9002_ l0_2) (h : spec_l3Tick.f k l0_0 l0_1 l0_2 = some (r1, r2, r3)) :
  Calls Try.prog 156 #[.agg #[u9000_, u9001_, u9002_]] w fun e w' => ∃ v0_ v1_ v2_ : Value, e = .returned (.agg #[v0_, v1_, v2_]) ∧ Kd.R (Kd.int .i64) 3 w' w0.heap.size (fun k_ => ((P0_0_ k_ ∨ P0_1_ k_ ∨ P0_2_ k_) ∨ w.heap.size ≤ k_) ∧ no_ v1_ k_) v0_ r1 ∧ Kd.R (Kd.int .i64) 3 w' w0.heap.size (fun k_ => ((P0_0_ k_ ∨ P0_1_ k_ ∨ P0_2_ k_) ∨ w.heap.size ≤ k_) ∧ no_ v0_ k_) v1_ r2 ∧ Kd.R k127 127 w' w0.heap.size (fun k_ => ((P0_0_ k_ ∨ P0_1_ k_ ∨ P0_2_ k_) ∨ w.heap.size ≤ k_)) v2_ r3 ∧ Below w0.heap.size w0 w' ∧ Kept w w' (fun k_ => P0_0_ k_ ∨ P0_1_ k_ ∨ P0_2_ k_) := by
 have hu47 := Try.underlying47
 have HO0_0 := Aside0.mk (show Kd.R (Kd.int .i64) 3 w w0.heap.size (fun k_ => ((P0_0_ k_ ∨ P0_1_ k_ ∨ P0_2_ k_) ∨ w.heap.size ≤ k_) ∧ some k_ ≠ (u9001_ : Value).ownBlock) u9000_ l0_0 from Kd.R_mono ho0_0 (fun k_ hk => ⟨(.inl (.inl hk)), fun e_ => hp0_0_0_1 k_ hk (ho0_1.1 k_ e_.symm)⟩))
 have HO0_1 := Aside0.mk (show Kd.R (Kd.int .i64) 3 w w0.heap.size (fun k_ => ((P0_0_ k_ ∨ P0_1_ k_ ∨ P0_2_ k_) ∨ w.heap.size ≤ k_) ∧ some k_ ≠ (u9000_ : Value).ownBlock) u9001_ l0_1 from Kd.R_mono ho0_1 (fun k_ hk => ⟨(.inl (.inr (.inl hk))), fun e_ => hp0_1_0_0 k_ hk (ho0_0.1 k_ e_.symm)⟩))
 have HO0_2 := Aside0.mk (show Kd.R k127 127 w w0.heap.size (fun k_ => ((P0_0_ k_ ∨ P0_1_ k_ ∨ P0_2_ k_) ∨ w.heap.size ≤ k_)) u9002_ l0_2 from Kd.R_mono ho0_2 (fun k_ hk => (.inl (.inr (.inr hk)))))
 have HK := Aside0.mk (Kept.refl w (fun k_ => P0_0_ k_ ∨ P0_1_ k_ ∨ P0_2_ k_))
 have HW0 := Aside0.mk hB.size
 have HB := Aside0.mk hB
 clear hB
 have H : (spec_l3Tick.l0 k (l0_0.length : Int) 0 l0_0 l0_1 l0_2) = some (r1, r2, r3) := h
 clear h
 have H' := Aside0.mk H
 clear H
 obtain ⟨Ao2, co2, eo2⟩ := Kd.R_slice HO0_0.out
 subst eo2
 obtain ⟨Ao3, co3, eo3⟩ := Kd.R_slice HO0_1.out
 subst eo3
 obtain ⟨Ao4, co4, eo4⟩ := Kd.R_slice HO0_2.out
 subst eo4
 go_enter Try.func156, Try.ntmps156
 go_wp2_with (first | ((with_reducible refine gate_dst (N := 1) rfl ?_); refine box_event ?hg (N := 1) ?hd (cs := #[.slice Ao2 l0_0.length co2, .slice Ao3 l0_1.length co3, .slice Ao4 l0_2.length co4]) (t := 47) ?hr ?_; (case hd => rfl); (case hg => rfl); (case hr => first | (go_simp; done) | (go_simp; rfl)); intro gb378 hg w5 hbox hb; have BK378 := Aside0.mk (hbox); have GW378 := Aside0.mk ((by rw [hg]; exact (by first | exact HK.out.1 | exact (show Kept w _ (fun k_ => P0_0_ k_ ∨ P0_1_ k_ ∨ P0_2_ k_) from by repeat (first | (with_reducible first | exact HK.out | apply Kept.alloc | apply Kept.drewN | apply Kept.drew) | exact HK.out)).1) : w.heap.size ≤ gb378)); have GE378 := gw_ hg HB; replace HO0_0 := rb_ HO0_0 hb; replace HO0_1 := rb_ HO0_1 hb; replace HO0_2 := rb_ HO0_2 hb; replace HK := Aside0.mk (Kept.below (S := (fun k_ => P0_0_ k_ ∨ P0_1_ k_ ∨ P0_2_ k_)) (by repeat (first | (with_reducible first | exact HK.out | apply Kept.alloc | apply Kept.drewN | apply Kept.drew) | exact HK.out)) hb); replace HB := bst_ HB hb; clear hb hbox hg) | ((with_reducible refine gate_dst (N := 2) rfl ?_); refine box_event ?hg (N := 2) ?hd (cs := #[.slice none 0 0, .slice none 0 0, .slice none 0 0]) (t := 47) ?hr ?_; (case hd => rfl); (case hg => rfl); (case hr => first | (go_simp; done) | (go_simp; rfl)); intro gb379 hg w6 hbox hb; have BK379 := Aside0.mk (hbox); have GW379 := Aside0.mk ((by rw [hg]; exact (by first | exact HK.out.1 | exact (show Kept w _ (fun k_ => P0_0_ k_ ∨ P0_1_ k_ ∨ P0_2_ k_) from by repeat (first | (with_reducible first | exact HK.out | apply Kept.alloc | apply Kept.drewN | apply Kept.drew | refine Kept.setCell ?_ (.inr GW378.out) _) | exact HK.out)).1) : w.heap.size ≤ gb379)); have GE379 := gw_ hg HB; have NB378_379 := nl_ hg BK378; have NB379_378 := ng_ hg BK378; replace HO0_0 := rb_ HO0_0 hb; replace HO0_1 := rb_ HO0_1 hb; replace HO0_2 := rb_ HO0_2 hb; replace BK378 := bb_ BK378 hb; replace HK := Aside0.mk (Kept.below (S := (fun k_ => P0_0_ k_ ∨ P0_1_ k_ ∨ P0_2_ k_)) (by repeat (first | (with_reducible first | exact HK.out | apply Kept.alloc | apply Kept.drewN | apply Kept.drew | refine Kept.setCell ?_ (.inr GW378.out) _) | exact HK.out)) hb); replace HB := bst_ HB hb; clear hb hbox hg; have hnb7 := NB378_379.out; have hnc7 := NB379_378.out; have hcz8_0 : w6.cell? ⟨gb378, 0, none⟩ = some (.slice Ao2 l0_0.length co2) := bc_ BK378 0; have hcz8_1 : w6.cell? ⟨gb378, 1, none⟩ = some (.slice Ao3 l0_1.length co3) := bc_ BK378 1; have hcz8_2 : w6.cell? ⟨gb378, 2, none⟩ = some (.slice Ao4 l0_2.length co4) := bc_ BK378 2; have hfz8_0 := blk_frozen BK378.out 0; have hfz8_1 := blk_frozen BK378.out 1; have hfz8_2 := blk_frozen BK378.out 2))
 go_loopg [7] k (fun kq v7 w' => ∃ (x7_1 : Int) (x379000_1 : List Int) (x379001_1 : List Int) (u379000 : Value) (u379001 : Value), v7 = .int .i64 x7_1 ∧ Aside0 (spec_l3Tick.l0 kq (l0_0.length : Int) x7_1 x379000_1 x379001_1 l0_2 = some (r1, r2, r3)) ∧ Aside0 (kq ≤ k) ∧ Aside0 (Kd.R (Kd.int .i64) 3 w' w0.heap.size (fun k_ => ((P0_0_ k_ ∨ P0_1_ k_ ∨ P0_2_ k_) ∨ w.heap.size ≤ k_) ∧ some k_ ≠ (u379001 : Value).ownBlock) u379000 x379000_1) ∧ Aside0 (Kd.R (Kd.int .i64) 3 w' w0.heap.size (fun k_ => ((P0_0_ k_ ∨ P0_1_ k_ ∨ P0_2_ k_) ∨ w.heap.size ≤ k_) ∧ some k_ ≠ (u379000 : Value).ownBlock) u379001 x379001_1) ∧ Aside0 (Kd.R k127 127 w' w0.heap.size (fun k_ => ((P0_0_ k_ ∨ P0_1_ k_ ∨ P0_2_ k_) ∨ w.heap.size ≤ k_)) (.slice Ao4 l0_2.length co4) l0_2) ∧ Aside0 (w'.heap[gb378]? = some (.cells #[u379000, u379001, (.slice Ao4 l0_2.length co4)] 47 (0, 0))) ∧ Aside0 (w'.heap[gb379]? = some (.cells #[(.slice none 0 0), (.slice none 0 0), (.slice none 0 0)] 47 (0, 0))) ∧ Aside0 (Kept w w' (fun k_ => P0_0_ k_ ∨ P0_1_ k_ ∨ P0_2_ k_)) ∧ Aside0 (Below w0.heap.size w0 w'))
 case atStart => exact ⟨(0), (l0_0), (l0_1), (.slice Ao2 l0_0.length co2), (.slice Ao3 l0_1.length co3), (by first | rfl | (simp; done) | (simp [*]; done)), H', ⟨Nat.le_refl _⟩, ⟨ra HO0_0.out⟩, ⟨ra HO0_1.out⟩, ⟨ra HO0_2.out⟩, ⟨by (with_reducible repeat (first | refine blk_drewN ?_ _ | refine blk_drew ?_ | refine blk_alloc ?_ _)); exact BK378.out⟩, ⟨by (with_reducible repeat (first | refine blk_drewN ?_ _ | refine blk_drew ?_ | refine blk_alloc ?_ _)); exact BK379.out⟩, ⟨by repeat (first | (with_reducible first | exact HK.out | apply Kept.alloc | apply Kept.drewN | apply Kept.drew | refine Kept.setCell ?_ (.inr GW378.out) _ | refine Kept.setCell ?_ (.inr GW379.out) _) | exact HK.out)⟩, ⟨hB HB⟩⟩
 case round =>
  clear H'
  try clear hcz8_0
  try clear hcz8_1
  try clear hcz8_2
  try clear hfz8_0
  try clear hfz8_1
  try clear hfz8_2
  obtain ⟨x7_1, x379000_1, x379001_1, u379000, u379001, rfl, HA, HK1, HO_379000, HO_379001, HO_379002, BK378, BK379, HK, HB⟩ := hrel
  cases gk with
  | zero => exact absurd HA.out (by simp [spec_l3Tick.l0])
  | succ k1 =>
   have H := HA.out
   clear HA
   simp only [spec_l3Tick.l0] at H
   by_cases c9 : x7_1 < (l0_0.length : Int)
   rotate_left
   ·rw [if_neg c9] at H
    have c9b0 : decide (x7_1 < (l0_0.length : Int)) = false := decide_eq_false c9
    clear c9
    simp only [Option.some.injEq, Prod.mk.injEq] at H
    obtain ⟨rfl, rfl, rfl⟩ := H
    have hnb36 := NB378_379.out
    have hnc36 := NB379_378.out
    have hcz37_0 : wr.cell? ⟨gb378, 0, none⟩ = some (u379000) := bc_ BK378 0
    have hcz37_1 : wr.cell? ⟨gb378, 1, none⟩ = some (u379001) := bc_ BK378 1
    have hcz37_2 : wr.cell? ⟨gb378, 2, none⟩ = some (.slice Ao4 l0_2.length co4) := bc_ BK378 2
    have hfz37_0 := blk_frozen BK378.out 0
    have hfz37_1 := blk_frozen BK378.out 1
    have hfz37_2 := blk_frozen BK378.out 2
    obtain ⟨Ao38, co38, eo38⟩ := Kd.R_slice HO_379000.out
    subst eo38
    have hcz39_0 : wr.cell? ⟨gb379, 0, none⟩ = some (.slice none 0 0) := bc_ BK379 0
    have hcz39_1 : wr.cell? ⟨gb379, 1, none⟩ = some (.slice none 0 0) := bc_ BK379 1
    have hcz39_2 : wr.cell? ⟨gb379, 2, none⟩ = some (.slice none 0 0) := bc_ BK379 2
    have hfz39_0 := blk_frozen BK379.out 0
    have hfz39_1 := blk_frozen BK379.out 1
    have hfz39_2 := blk_frozen BK379.out 2
    obtain ⟨Ao40, co40, eo40⟩ := Kd.R_slice HO_379001.out
    subst eo40
    go_wp2
    refine bodyPost_ret (results_cell_row rfl _ _ gb379 47 #[.slice Ao38 x379000_1.length co38, .slice Ao40 x379001_1.length co40, .slice Ao4 l0_2.length co4] (0, 0) _ rfl (by (with_reducible repeat (first | refine blk_drewN ?_ _ | refine blk_drew ?_ | refine blk_alloc ?_ _)); refine blk_put (cs := #[.slice Ao38 x379000_1.length co38, .slice Ao40 x379001_1.length co40, .slice none 0 0]) ?_ 2 _ rfl; (with_reducible repeat (first | refine blk_drewN ?_ _ | refine blk_drew ?_ | refine blk_alloc ?_ _)); refine blk_put (cs := #[.slice Ao38 x379000_1.length co38, .slice none 0 0, .slice none 0 0]) ?_ 1 _ rfl; (with_reducible repeat (first | refine blk_drewN ?_ _ | refine blk_drew ?_ | refine blk_alloc ?_ _)); refine blk_put (cs := #[.slice none 0 0, .slice none 0 0, .slice none 0 0]) ?_ 0 _ rfl; (with_reducible repeat (first | refine blk_drewN ?_ _ | refine blk_drew ?_ | refine blk_alloc ?_ _)); exact BK379.out) Try.underlying47 rfl (by kernel_rfl)) rfl ?_
    exact ⟨_, _, _, by first | rfl | (simp [errW_none, errW_some] <;> rfl) | (simp [*, errW_none, errW_some] <;> rfl), by (with_reducible repeat (first | apply Kd.R_alloc | apply Kd.R_drewN | apply Kd.R_drew)); exact Kd.R_mono (fs3_ HO_379000.out BK379.out) (fun _ hk => hk.1), by (with_reducible repeat (first | apply Kd.R_alloc | apply Kd.R_drewN | apply Kd.R_drew)); exact Kd.R_mono (fs3_ HO_379001.out BK379.out) (fun _ hk => hk.1), by (with_reducible repeat (first | apply Kd.R_alloc | apply Kd.R_drewN | apply Kd.R_drew)); exact Kd.R_mono (fs3_ HO_379002.out BK379.out) (fun _ hk => hk.1), by repeat (first | (with_reducible first | exact HB.out | apply below_alloc | apply pw_below_drewN | apply below_drew1 | refine below_set ?_ GE378.out | refine below_set ?_ GE379.out) | exact HB.out), by repeat (first | (with_reducible first | exact HK.out | apply Kept.alloc | apply Kept.drewN | apply Kept.drew | refine Kept.setCell ?_ (.inr GW378.out) _ | refine Kept.setCell ?_ (.inr GW379.out) _) | exact HK.out)⟩
   rw [if_pos c9] at H
   have c9b0 : decide (x7_1 < (l0_0.length : Int)) = true := decide_eq_true c9
   clear c9
   by_cases c10 : 0 ≤ x7_1
   rotate_left
   ·rw [if_neg c10] at H
    exact absurd H (by simp)
   rw [if_pos c10] at H
   have c10b0 : decide (0 ≤ x7_1) = true := decide_eq_true c10
   clear c10
   by_cases c11 : x7_1 < (x379000_1.length : Int)
   rotate_left
   ·rw [if_neg c11] at H
    exact absurd H (by simp)
   rw [if_pos c11] at H
   have c11b0 : decide (x7_1 < (x379000_1.length : Int)) = true := decide_eq_true c11
   clear c11
   by_cases c12 : (rd x379000_1 x7_1) = 0
   ·rw [if_pos c12] at H
    have c12b0 : ((rd x379000_1 x7_1) == 0) = true := beq_iff_eq.mpr c12
    have c12b1 : ((rd x379000_1 x7_1) != 0) = false := bne_eq_false_iff_eq.mpr c12
    clear c12
    have H' := Aside0.mk H
    clear H
    have hnb13 := NB378_379.out
    have hnc13 := NB379_378.out
    have hcz14_0 : wr.cell? ⟨gb378, 0, none⟩ = some (u379000) := bc_ BK378 0
    have hcz14_1 : wr.cell? ⟨gb378, 1, none⟩ = some (u379001) := bc_ BK378 1
    have hcz14_2 : wr.cell? ⟨gb378, 2, none⟩ = some (.slice Ao4 l0_2.length co4) := bc_ BK378 2
    have hfz14_0 := blk_frozen BK378.out 0
    have hfz14_1 := blk_frozen BK378.out 1
    have hfz14_2 := blk_frozen BK378.out 2
    obtain ⟨Ao15, co15, eo15⟩ := Kd.R_slice HO_379000.out
    subst eo15
    have p380 : 0 ≤ (x7_1 : Int) := of_decide_eq_true (by first | (with_reducible assumption) | assumption)
    have q380 : x7_1 < (x379000_1.length : Int) := of_decide_eq_true (by first | (with_reducible assumption) | assumption)
    obtain ⟨ad380, e380, hx380_0⟩ := Kd.at_int (Kd.R_reads' HO_379000.out).2.2 x7_1 p380 q380
    cases e380
    replace p380 := eq_true p380
    replace q380 := eq_true q380
    go_wp2
    go_roundg k1
    case measure => have := HK1.out; omega
    case rel => exact ⟨(wrap64 (x7_1 + 1)), (x379000_1), (x379001_1), (.slice (some ad380) x379000_1.length co15), (u379001), (by first | rfl | (simp; done) | (simp [*]; done)), H', ⟨by have := HK1.out; omega⟩, ⟨ra HO_379000.out⟩, ⟨ra HO_379001.out⟩, ⟨ra HO_379002.out⟩, ⟨by (with_reducible repeat (first | refine blk_drewN ?_ _ | refine blk_drew ?_ | refine blk_alloc ?_ _)); exact BK378.out⟩, ⟨by (with_reducible repeat (first | refine blk_drewN ?_ _ | refine blk_drew ?_ | refine blk_alloc ?_ _)); exact BK379.out⟩, ⟨by repeat (first | (with_reducible first | exact HK.out | apply Kept.alloc | apply Kept.drewN | apply Kept.drew | refine Kept.setCell ?_ (.inr GW378.out) _ | refine Kept.setCell ?_ (.inr GW379.out) _) | exact HK.out)⟩, ⟨hB HB⟩⟩
   rw [if_neg c12] at H
   have c12b0 : ((rd x379000_1 x7_1) == 0) = false := beq_eq_false_iff_ne.mpr c12
   have c12b1 : ((rd x379000_1 x7_1) != 0) = true := bne_iff_ne.mpr c12
   by_cases c16 : x7_1 < (x379001_1.length : Int)
   rotate_left
   ·rw [if_neg c16] at H
    exact absurd H (by simp)
   rw [if_pos c16] at H
   have c16b0 : decide (x7_1 < (x379001_1.length : Int)) = true := decide_eq_true c16
   clear c16
   obtain ⟨y382, hy382⟩ : ∃ y_ : List Int, y_ = (x379001_1.set (x7_1 : Int).toNat (wrap64 ((rd x379001_1 x7_1) - 1))) := ⟨_, rfl⟩
   replace H : (if (rd y382 x7_1) = 0 then (spec_l3Tick.l0 k1 (l0_0.length : Int) (wrap64 (x7_1 + 1)) (x379000_1.set (x7_1 : Int).toNat 0) y382 l0_2) else (spec_l3Tick.l0 k1 (l0_0.length : Int) (wrap64 (x7_1 + 1)) x379000_1 y382 l0_2)) = some (r1, r2, r3) := by first | (rw [hy382]; with_reducible exact H) | (have H2_ := (Option.bind_some _ _).symm.trans H; rw [hy382]; with_reducible exact H2_) | (have H2_ := (Option.bind_some _ _).symm.trans H; with_reducible exact H2_) | with_reducible exact H | (rw [hy382]; exact H) | exact H
   have Ny382 := Aside0.mk hy382
   clear hy382
   by_cases c18 : (rd y382 x7_1) = 0
   rotate_left
   ·rw [if_neg c18] at H
    have c18b0 : ((rd y382 x7_1) == 0) = false := beq_eq_false_iff_ne.mpr c18
    have c18b1 : ((rd y382 x7_1) != 0) = true := bne_iff_ne.mpr c18
    have H' := Aside0.mk H
    clear H
    have hnb29 := NB378_379.out
    have hnc29 := NB379_378.out
    have hcz30_0 : wr.cell? ⟨gb378, 0, none⟩ = some (u379000) := bc_ BK378 0
    have hcz30_1 : wr.cell? ⟨gb378, 1, none⟩ = some (u379001) := bc_ BK378 1
    have hcz30_2 : wr.cell? ⟨gb378, 2, none⟩ = some (.slice Ao4 l0_2.length co4) := bc_ BK378 2
    have hfz30_0 := blk_frozen BK378.out 0
    have hfz30_1 := blk_frozen BK378.out 1
    have hfz30_2 := blk_frozen BK378.out 2
    obtain ⟨Ao31, co31, eo31⟩ := Kd.R_slice HO_379000.out
    subst eo31
    have p380 : 0 ≤ (x7_1 : Int) := of_decide_eq_true (by first | (with_reducible assumption) | assumption)
    have q380 : x7_1 < (x379000_1.length : Int) := of_decide_eq_true (by first | (with_reducible assumption) | assumption)
    obtain ⟨ad380, e380, hx380_0⟩ := Kd.at_int (Kd.R_reads' HO_379000.out).2.2 x7_1 p380 q380
    cases e380
    replace p380 := eq_true p380
    replace q380 := eq_true q380
    obtain ⟨Ao32, co32, eo32⟩ := Kd.R_slice HO_379001.out
    subst eo32
    have p381 : 0 ≤ (x7_1 : Int) := of_decide_eq_true (by first | (with_reducible assumption) | assumption)
    have q381 : x7_1 < (x379001_1.length : Int) := of_decide_eq_true (by first | (with_reducible assumption) | assumption)
    obtain ⟨ad381, e381, hx381_0⟩ := Kd.at_int (Kd.R_reads' HO_379001.out).2.2 x7_1 p381 q381
    cases e381
    replace p381 := eq_true p381
    replace q381 := eq_true q381
    have p17 : 0 ≤ (x7_1 : Int) := of_decide_eq_true (by first | (with_reducible assumption) | assumption)
    have q17 : (x7_1 : Int) < ((x379001_1.length : Int) : Int) := of_decide_eq_true (by first | (with_reducible assumption) | assumption)
    obtain ⟨go17, co17, eo17, gb17, gl17, cl17, HG17⟩ := Kd.R_form HO_379001.out (by omega)
    (first | cases eo17 | (injection eo17 with ea_ en_ ec_; (first | subst ea_ | (injection ea_ with ea_; subst ea_)); subst ec_; clear en_))
    have GB17 := Aside0.mk gb17
    have GG17 := Aside0.mk HG17
    clear gb17 gl17 HG17
    have HMgo17 := Aside0.mk (show ((P0_0_ go17 ∨ P0_1_ go17 ∨ P0_2_ go17) ∨ w.heap.size ≤ go17) from (HO_379001.out.1 _ rfl).1)
    (first | simp only [add_plain] at hx381_0 | skip)
    obtain ⟨hx17_0, hf17_0⟩ := Kd.R_celln 0 HO_379001.out (x7_1 : Int) p17 q17
    replace p17 := eq_true p17
    replace q17 := eq_true q17
    have HP33 := Kd.R_putg HO_379001.out (x7_1 : Int) (wrap64 ((rd x379001_1 x7_1) - 1))
    go_wp2_with (first | ((with_reducible refine gate_store (t := 3) (p := 22) rfl ?_); refine store_event (t := 3) (p := 22) (v := ?vo_w34) (w1 := (wr.setCell ⟨go17, (x7_1 : Int).toNat, none⟩ (.int .i64 (wrap64 ((rd x379001_1 x7_1) - 1))))) ?hg ?ho ?hn ?hr ?_; (case ho => rfl); (case hg => rfl); (case hn => rfl); (case hr => first | (go_simp; done) | (go_simp; rfl)); intro w34 hw; have hg : wr.grownBy w34 (some go17) := (by rw [hw]; exact HP33.2); have hp_ : Kd.R (Kd.int .i64) 3 w34 w0.heap.size (fun k_ => ((P0_0_ k_ ∨ P0_1_ k_ ∨ P0_2_ k_) ∨ w.heap.size ≤ k_) ∧ some k_ ≠ (.slice (some ad380) x379000_1.length co31 : Value).ownBlock) (.slice (some ⟨go17, 0, none⟩) x379001_1.length co32) y382 := (by rw [hw, Ny382.out]; exact HP33.1); clear HP33; replace HO_379000 := Aside0.mk (Kd.R_after (v := (.slice (some ⟨go17, 0, none⟩) x379001_1.length co32)) (v1 := (.slice (some ⟨go17, 0, none⟩) x379001_1.length co32)) (ok := (fun k_ => ((P0_0_ k_ ∨ P0_1_ k_ ∨ P0_2_ k_) ∨ w.heap.size ≤ k_))) (ra HO_379000.out) hg (.inl rfl)); replace HO_379002 := Aside0.mk (Kd.R_over' (v := (.slice (some ⟨go17, 0, none⟩) x379001_1.length co32)) (ra HO_379002.out) (Kd.R_typed HO_379001.out) (by decide) hg); replace BK378 := Aside0.mk (blk_grown (g := gb378) (o := .cells #[.slice (some ad380) x379000_1.length co31, .slice (some ⟨go17, 0, none⟩) x379001_1.length co32, .slice Ao4 l0_2.length co4] 47 (0, 0)) (ba BK378.out) hg (Kd.R_ne HO_379001.out BK378.out (by decide))); replace BK379 := Aside0.mk (blk_grown (g := gb379) (o := .cells #[.slice none 0 0, .slice none 0 0, .slice none 0 0] 47 (0, 0)) (ba BK379.out) hg (Kd.R_ne HO_379001.out BK379.out (by decide))); replace HB := Aside0.mk ((by rw [hw]; exact below_set (HB.out) GB17.out : Below w0.heap.size w0 w34)); replace HK := Aside0.mk (Kept.of_grown (S := (fun k_ => P0_0_ k_ ∨ P0_1_ k_ ∨ P0_2_ k_)) hg (by repeat (first | (with_reducible first | exact HK.out | apply Kept.alloc | apply Kept.drewN | apply Kept.drew | refine Kept.setCell ?_ (.inr GW378.out) _ | refine Kept.setCell ?_ (.inr GW379.out) _) | exact HK.out)) (fun k_ e_ => (HO_379001.out.1 k_ e_).1)); replace HO_379001 := Aside0.mk (hp_); clear hg hw hp_; have hcz35_0 : w34.cell? ⟨gb378, 0, none⟩ = some (.slice (some ad380) x379000_1.length co31) := bc_ BK378 0; have hcz35_1 : w34.cell? ⟨gb378, 1, none⟩ = some (.slice (some ⟨go17, 0, none⟩) x379001_1.length co32) := bc_ BK378 1; have hcz35_2 : w34.cell? ⟨gb378, 2, none⟩ = some (.slice Ao4 l0_2.length co4) := bc_ BK378 2; have hfz35_0 := blk_frozen BK378.out 0; have hfz35_1 := blk_frozen BK378.out 1; have hfz35_2 := blk_frozen BK378.out 2; have p383 : 0 ≤ (x7_1 : Int) := of_decide_eq_true (by first | (with_reducible assumption) | assumption); have q383 : x7_1 < (y382.length : Int) := (by have h_ : (x7_1 : Int) < ((x379001_1.length : Int) : Int) := of_decide_eq_true (by first | (with_reducible assumption) | assumption); first | (have e_ := (Kd.R_reads' HO_379001.out).1; omega) | simpa only [Ny382.out, List.length_set] using h_); have ql383 : ((x7_1 : Int) < ((x379001_1.length : Int) : Int)) = True := eq_true (of_decide_eq_true (by first | (with_reducible assumption) | assumption)); obtain ⟨ad383, e383, hx383_0⟩ := Kd.at_int (Kd.R_reads' HO_379001.out).2.2 x7_1 p383 q383; obtain rfl : (⟨go17, 0, none⟩ : Addr) = ad383 := (by injection e383); (first | simp only [add_plain] at hx383_0 | simp only [add_at] at hx383_0 | simp only [Addr.add, Nat.zero_add] at hx383_0 | skip); replace p383 := eq_true p383; replace q383 := eq_true q383))
    go_roundg k1
    case measure => have := HK1.out; omega
    case rel => exact ⟨(wrap64 (x7_1 + 1)), (x379000_1), (y382), (.slice (some ad380) x379000_1.length co31), (.slice (some ⟨go17, 0, none⟩) x379001_1.length co32), (by first | rfl | (simp; done) | (simp [*]; done)), H', ⟨by have := HK1.out; omega⟩, ⟨ra HO_379000.out⟩, ⟨ra HO_379001.out⟩, ⟨ra HO_379002.out⟩, ⟨by (with_reducible repeat (first | refine blk_drewN ?_ _ | refine blk_drew ?_ | refine blk_alloc ?_ _)); exact BK378.out⟩, ⟨by (with_reducible repeat (first | refine blk_drewN ?_ _ | refine blk_drew ?_ | refine blk_alloc ?_ _)); exact BK379.out⟩, ⟨by repeat (first | (with_reducible first | exact HK.out | apply Kept.alloc | apply Kept.drewN | apply Kept.drew | refine Kept.setCell ?_ (.inr GW378.out) _ | refine Kept.setCell ?_ (.inr GW379.out) _) | exact HK.out)⟩, ⟨hB HB⟩⟩
   rw [if_pos c18] at H
   have c18b0 : ((rd y382 x7_1) == 0) = true := beq_iff_eq.mpr c18
   have c18b1 : ((rd y382 x7_1) != 0) = false := bne_eq_false_iff_eq.mpr c18
   clear c18
   obtain ⟨y384, hy384⟩ : ∃ y_ : List Int, y_ = (x379000_1.set (x7_1 : Int).toNat 0) := ⟨_, rfl⟩
   replace H : (spec_l3Tick.l0 k1 (l0_0.length : Int) (wrap64 (x7_1 + 1)) y384 y382 l0_2) = some (r1, r2, r3) := by first | (rw [hy384]; with_reducible exact H) | (have H2_ := (Option.bind_some _ _).symm.trans H; rw [hy384]; with_reducible exact H2_) | (have H2_ := (Option.bind_some _ _).symm.trans H; with_reducible exact H2_) | with_reducible exact H | (rw [hy384]; exact H) | exact H
   have Ny384 := Aside0.mk hy384
   clear hy384
   have H' := Aside0.mk H
   clear H
   have hnb20 := NB378_379.out
   have hnc20 := NB379_378.out
   have hcz21_0 : wr.cell? ⟨gb378, 0, none⟩ = some (u379000) := bc_ BK378 0
   have hcz21_1 : wr.cell? ⟨gb378, 1, none⟩ = some (u379001) := bc_ BK378 1
   have hcz21_2 : wr.cell? ⟨gb378, 2, none⟩ = some (.slice Ao4 l0_2.length co4) := bc_ BK378 2
   have hfz21_0 := blk_frozen BK378.out 0
   have hfz21_1 := blk_frozen BK378.out 1
   have hfz21_2 := blk_frozen BK378.out 2
   obtain ⟨Ao22, co22, eo22⟩ := Kd.R_slice HO_379000.out
   subst eo22
   have p380 : 0 ≤ (x7_1 : Int) := of_decide_eq_true (by first | (with_reducible assumption) | assumption)
   have q380 : x7_1 < (x379000_1.length : Int) := of_decide_eq_true (by first | (with_reducible assumption) | assumption)
   obtain ⟨ad380, e380, hx380_0⟩ := Kd.at_int (Kd.R_reads' HO_379000.out).2.2 x7_1 p380 q380
   cases e380
   replace p380 := eq_true p380
   replace q380 := eq_true q380
   obtain ⟨Ao23, co23, eo23⟩ := Kd.R_slice HO_379001.out
   subst eo23
   have p381 : 0 ≤ (x7_1 : Int) := of_decide_eq_true (by first | (with_reducible assumption) | assumption)
   have q381 : x7_1 < (x379001_1.length : Int) := of_decide_eq_true (by first | (with_reducible assumption) | assumption)
   obtain ⟨ad381, e381, hx381_0⟩ := Kd.at_int (Kd.R_reads' HO_379001.out).2.2 x7_1 p381 q381
   cases e381
   replace p381 := eq_true p381
   replace q381 := eq_true q381
   have p17 : 0 ≤ (x7_1 : Int) := of_decide_eq_true (by first | (with_reducible assumption) | assumption)
   have q17 : (x7_1 : Int) < ((x379001_1.length : Int) : Int) := of_decide_eq_true (by first | (with_reducible assumption) | assumption)
   obtain ⟨go17, co17, eo17, gb17, gl17, cl17, HG17⟩ := Kd.R_form HO_379001.out (by omega)
   (first | cases eo17 | (injection eo17 with ea_ en_ ec_; (first | subst ea_ | (injection ea_ with ea_; subst ea_)); subst ec_; clear en_))
   have GB17 := Aside0.mk gb17
   have GG17 := Aside0.mk HG17
   clear gb17 gl17 HG17
   have HMgo17 := Aside0.mk (show ((P0_0_ go17 ∨ P0_1_ go17 ∨ P0_2_ go17) ∨ w.heap.size ≤ go17) from (HO_379001.out.1 _ rfl).1)
   (first | simp only [add_plain] at hx381_0 | skip)
   obtain ⟨hx17_0, hf17_0⟩ := Kd.R_celln 0 HO_379001.out (x7_1 : Int) p17 q17
   replace p17 := eq_true p17
   replace q17 := eq_true q17
   have HP24 := Kd.R_putg HO_379001.out (x7_1 : Int) (wrap64 ((rd x379001_1 x7_1) - 1))
   go_wp2_with (first | ((with_reducible refine gate_store (t := 3) (p := 22) rfl ?_); refine store_event (t := 3) (p := 22) (v := ?vo_w25) (w1 := (wr.setCell ⟨go17, (x7_1 : Int).toNat, none⟩ (.int .i64 (wrap64 ((rd x379001_1 x7_1) - 1))))) ?hg ?ho ?hn ?hr ?_; (case ho => rfl); (case hg => rfl); (case hn => rfl); (case hr => first | (go_simp; done) | (go_simp; rfl)); intro w25 hw; have hg : wr.grownBy w25 (some go17) := (by rw [hw]; exact HP24.2); have hp_ : Kd.R (Kd.int .i64) 3 w25 w0.heap.size (fun k_ => ((P0_0_ k_ ∨ P0_1_ k_ ∨ P0_2_ k_) ∨ w.heap.size ≤ k_) ∧ some k_ ≠ (.slice (some ad380) x379000_1.length co22 : Value).ownBlock) (.slice (some ⟨go17, 0, none⟩) x379001_1.length co23) y382 := (by rw [hw, Ny382.out]; exact HP24.1); clear HP24; replace HO_379000 := Aside0.mk (Kd.R_after (v := (.slice (some ⟨go17, 0, none⟩) x379001_1.length co23)) (v1 := (.slice (some ⟨go17, 0, none⟩) x379001_1.length co23)) (ok := (fun k_ => ((P0_0_ k_ ∨ P0_1_ k_ ∨ P0_2_ k_) ∨ w.heap.size ≤ k_))) (ra HO_379000.out) hg (.inl rfl)); replace HO_379002 := Aside0.mk (Kd.R_over' (v := (.slice (some ⟨go17, 0, none⟩) x379001_1.length co23)) (ra HO_379002.out) (Kd.R_typed HO_379001.out) (by decide) hg); replace BK378 := Aside0.mk (blk_grown (g := gb378) (o := .cells #[.slice (some ad380) x379000_1.length co22, .slice (some ⟨go17, 0, none⟩) x379001_1.length co23, .slice Ao4 l0_2.length co4] 47 (0, 0)) (ba BK378.out) hg (Kd.R_ne HO_379001.out BK378.out (by decide))); replace BK379 := Aside0.mk (blk_grown (g := gb379) (o := .cells #[.slice none 0 0, .slice none 0 0, .slice none 0 0] 47 (0, 0)) (ba BK379.out) hg (Kd.R_ne HO_379001.out BK379.out (by decide))); replace HB := Aside0.mk ((by rw [hw]; exact below_set (HB.out) GB17.out : Below w0.heap.size w0 w25)); replace HK := Aside0.mk (Kept.of_grown (S := (fun k_ => P0_0_ k_ ∨ P0_1_ k_ ∨ P0_2_ k_)) hg (by repeat (first | (with_reducible first | exact HK.out | apply Kept.alloc | apply Kept.drewN | apply Kept.drew | refine Kept.setCell ?_ (.inr GW378.out) _ | refine Kept.setCell ?_ (.inr GW379.out) _) | exact HK.out)) (fun k_ e_ => (HO_379001.out.1 k_ e_).1)); replace HO_379001 := Aside0.mk (hp_); clear hg hw hp_; have hcz26_0 : w25.cell? ⟨gb378, 0, none⟩ = some (.slice (some ad380) x379000_1.length co22) := bc_ BK378 0; have hcz26_1 : w25.cell? ⟨gb378, 1, none⟩ = some (.slice (some ⟨go17, 0, none⟩) x379001_1.length co23) := bc_ BK378 1; have hcz26_2 : w25.cell? ⟨gb378, 2, none⟩ = some (.slice Ao4 l0_2.length co4) := bc_ BK378 2; have hfz26_0 := blk_frozen BK378.out 0; have hfz26_1 := blk_frozen BK378.out 1; have hfz26_2 := blk_frozen BK378.out 2; have p383 : 0 ≤ (x7_1 : Int) := of_decide_eq_true (by first | (with_reducible assumption) | assumption); have q383 : x7_1 < (y382.length : Int) := (by have h_ : (x7_1 : Int) < ((x379001_1.length : Int) : Int) := of_decide_eq_true (by first | (with_reducible assumption) | assumption); first | (have e_ := (Kd.R_reads' HO_379001.out).1; omega) | simpa only [Ny382.out, List.length_set] using h_); have ql383 : ((x7_1 : Int) < ((x379001_1.length : Int) : Int)) = True := eq_true (of_decide_eq_true (by first | (with_reducible assumption) | assumption)); obtain ⟨ad383, e383, hx383_0⟩ := Kd.at_int (Kd.R_reads' HO_379001.out).2.2 x7_1 p383 q383; obtain rfl : (⟨go17, 0, none⟩ : Addr) = ad383 := (by injection e383); (first | simp only [add_plain] at hx383_0 | simp only [add_at] at hx383_0 | simp only [Addr.add, Nat.zero_add] at hx383_0 | skip); replace p383 := eq_true p383; replace q383 := eq_true q383; have p19 : 0 ≤ (x7_1 : Int) := of_decide_eq_true (by first | (with_reducible assumption) | assumption); have q19 : (x7_1 : Int) < ((x379000_1.length : Int) : Int) := of_decide_eq_true (by first | (with_reducible assumption) | assumption); obtain ⟨go19, co19, eo19, gb19, gl19, cl19, HG19⟩ := Kd.R_form HO_379000.out (by omega); (first | cases eo19 | (injection eo19 with ea_ en_ ec_; (first | subst ea_ | (injection ea_ with ea_; subst ea_)); subst ec_; clear en_)); have GB19 := Aside0.mk gb19; have GG19 := Aside0.mk HG19; clear gb19 gl19 HG19; have HMgo19 := Aside0.mk (show ((P0_0_ go19 ∨ P0_1_ go19 ∨ P0_2_ go19) ∨ w.heap.size ≤ go19) from (HO_379000.out.1 _ rfl).1); (first | simp only [add_plain] at hx380_0 | skip); obtain ⟨hx19_0, hf19_0⟩ := Kd.R_celln 0 HO_379000.out (x7_1 : Int) p19 q19; replace p19 := eq_true p19; replace q19 := eq_true q19; obtain ⟨hy27_, hz27_⟩ := Kd.R_celln 0 HO_379000.out (x7_1 : Int) (of_decide_eq_true (by first | (with_reducible assumption) | assumption)) (of_decide_eq_true (by first | (with_reducible assumption) | assumption)); have HP27 := Kd.R_putg HO_379000.out (x7_1 : Int) 0) | ((with_reducible refine gate_store (t := 3) (p := 32) rfl ?_); refine store_event (t := 3) (p := 32) (v := ?vo_w28) (w1 := (w25.setCell ⟨go19, (x7_1 : Int).toNat, none⟩ (.int .i64 0))) ?hg ?ho ?hn ?hr ?_; (case ho => rfl); (case hg => rfl); (case hn => rfl); (case hr => first | (go_simp; done) | (go_simp; rfl)); intro w28 hw; have hg : w25.grownBy w28 (some go19) := (by rw [hw]; exact HP27.2); have hp_ : Kd.R (Kd.int .i64) 3 w28 w0.heap.size (fun k_ => ((P0_0_ k_ ∨ P0_1_ k_ ∨ P0_2_ k_) ∨ w.heap.size ≤ k_) ∧ some k_ ≠ (.slice (some ⟨go17, 0, none⟩) x379001_1.length co23 : Value).ownBlock) (.slice (some ⟨go19, 0, none⟩) x379000_1.length co22) y384 := (by rw [hw, Ny384.out]; exact HP27.1); clear HP27; replace HO_379001 := Aside0.mk (Kd.R_after (v := (.slice (some ⟨go19, 0, none⟩) x379000_1.length co22)) (v1 := (.slice (some ⟨go19, 0, none⟩) x379000_1.length co22)) (ok := (fun k_ => ((P0_0_ k_ ∨ P0_1_ k_ ∨ P0_2_ k_) ∨ w.heap.size ≤ k_))) (ra HO_379001.out) hg (.inl rfl)); replace HO_379002 := Aside0.mk (Kd.R_over' (v := (.slice (some ⟨go19, 0, none⟩) x379000_1.length co22)) (ra HO_379002.out) (Kd.R_typed HO_379000.out) (by decide) hg); replace BK378 := Aside0.mk (blk_grown (g := gb378) (o := .cells #[.slice (some ⟨go19, 0, none⟩) x379000_1.length co22, .slice (some ⟨go17, 0, none⟩) x379001_1.length co23, .slice Ao4 l0_2.length co4] 47 (0, 0)) (ba BK378.out) hg (Kd.R_ne HO_379000.out BK378.out (by decide))); replace BK379 := Aside0.mk (blk_grown (g := gb379) (o := .cells #[.slice none 0 0, .slice none 0 0, .slice none 0 0] 47 (0, 0)) (ba BK379.out) hg (Kd.R_ne HO_379000.out BK379.out (by decide))); replace HB := Aside0.mk ((by rw [hw]; exact below_set (HB.out) GB19.out : Below w0.heap.size w0 w28)); replace HK := Aside0.mk (Kept.of_grown (S := (fun k_ => P0_0_ k_ ∨ P0_1_ k_ ∨ P0_2_ k_)) hg (by repeat (first | (with_reducible first | exact HK.out | apply Kept.alloc | apply Kept.drewN | apply Kept.drew | refine Kept.setCell ?_ (.inr GW378.out) _ | refine Kept.setCell ?_ (.inr GW379.out) _) | exact HK.out)) (fun k_ e_ => (HO_379000.out.1 k_ e_).1)); replace HO_379000 := Aside0.mk (hp_); clear hg hw hp_))
   go_roundg k1
   case measure => have := HK1.out; omega
   case rel => exact ⟨(wrap64 (x7_1 + 1)), (y384), (y382), (.slice (some ⟨go19, 0, none⟩) x379000_1.length co22), (.slice (some ⟨go17, 0, none⟩) x379001_1.length co23), (by first | rfl | (simp; done) | (simp [*]; done)), H', ⟨by have := HK1.out; omega⟩, ⟨ra HO_379000.out⟩, ⟨ra HO_379001.out⟩, ⟨ra HO_379002.out⟩, ⟨by (with_reducible repeat (first | refine blk_drewN ?_ _ | refine blk_drew ?_ | refine blk_alloc ?_ _)); exact BK378.out⟩, ⟨by (with_reducible repeat (first | refine blk_drewN ?_ _ | refine blk_drew ?_ | refine blk_alloc ?_ _)); exact BK379.out⟩, ⟨by repeat (first | (with_reducible first | exact HK.out | apply Kept.alloc | apply Kept.drewN | apply Kept.drew | refine Kept.setCell ?_ (.inr GW378.out) _ | refine Kept.setCell ?_ (.inr GW379.out) _) | exact HK.out)⟩, ⟨hB HB⟩⟩

def spec_NextState.f (a0 : Int) (a1 : Bool) : Option (Int × Bool) := (spec_l1In.f a0 0 2).bind fun t385 => (if t385 = true then (if a1 = true then (some (2, true)) else (some (1, true))) else (some (0, false)))
set_option maxHeartbeats 8000000 in
set_option maxRecDepth 100000 in
theorem spec_NextState.calls (a0 : Int) (a1 : Bool) (r1 : Int) (r2 : Bool) (w : World) (h : spec_NextState.f a0 a1 = some (r1, r2)) :
  Calls Try.prog 157 #[.int .i64 a0, .bool a1] w fun e w' => e = .returned (.tuple #[.int .i64 r1, .bool r2]) ∧ Drawn0 w w' := by
 have H : ((spec_l1In.f a0 0 2).bind fun t385 => (if t385 = true then (if a1 = true then (some (2, true)) else (some (1, true))) else (some (0, false)))) = some (r1, r2) := h
 clear h
 replace H := Option.bind_eq_some_iff.mp H
 obtain ⟨t385, A30, H⟩ := H
 replace H : (if t385 = true then (if a1 = true then (some (2, true)) else (some (1, true))) else (some (0, false))) = some (r1, r2) := H
 have A3 := Aside0.mk A30
 clear A30
 by_cases c4 : t385 = true
 rotate_left
 ·replace c4 := Bool.eq_false_iff.mpr c4
  subst c4
  rw [if_neg (show ¬ (false = true) by decide)] at H
  simp only [Option.some.injEq, Prod.mk.injEq] at H
  obtain ⟨rfl, rfl⟩ := H
  go_enter Try.func157, Try.ntmps157
  go_wp2_with (first | ((with_reducible refine gate_callee (f := 108) rfl ?_); refine goesL_ (some 7) rfl rfl Try.func108 (by kernel_rfl) rfl #[.int .i64 a0, .int .i64 0, .int .i64 2] rfl tm_ ?_; (with_reducible refine (spec_l1In.calls a0 0 2 false _ A3.out).mono ?_); rintro e w' ⟨rfl, ⟨nd, rfl⟩⟩; refine ⟨_, rfl, ?_⟩))
  go_ret2
  exact ⟨by first | rfl | (simp; done) | (simp [*]; done), by repeat (first | exact Drawn0.refl _ | apply Drawn0.step)⟩
 subst c4
 rw [if_pos rfl] at H
 by_cases c5 : a1 = true
 ·subst c5
  rw [if_pos rfl] at H
  simp only [Option.some.injEq, Prod.mk.injEq] at H
  obtain ⟨rfl, rfl⟩ := H
  go_enter Try.func157, Try.ntmps157
  go_wp2_with (first | ((with_reducible refine gate_callee (f := 108) rfl ?_); refine goesL_ (some 7) rfl rfl Try.func108 (by kernel_rfl) rfl #[.int .i64 a0, .int .i64 0, .int .i64 2] rfl tm_ ?_; (with_reducible refine (spec_l1In.calls a0 0 2 true _ A3.out).mono ?_); rintro e w' ⟨rfl, ⟨nd, rfl⟩⟩; refine ⟨_, rfl, ?_⟩))
  go_ret2
  exact ⟨by first | rfl | (simp; done) | (simp [*]; done), by repeat (first | exact Drawn0.refl _ | apply Drawn0.step)⟩
 replace c5 := Bool.eq_false_iff.mpr c5
 subst c5
 rw [if_neg (show ¬ (false = true) by decide)] at H
 simp only [Option.some.injEq, Prod.mk.injEq] at H
 obtain ⟨rfl, rfl⟩ := H
 go_enter Try.func157, Try.ntmps157
 go_wp2_with (first | ((with_reducible refine gate_callee (f := 108) rfl ?_); refine goesL_ (some 7) rfl rfl Try.func108 (by kernel_rfl) rfl #[.int .i64 a0, .int .i64 0, .int .i64 2] rfl tm_ ?_; (with_reducible refine (spec_l1In.calls a0 0 2 true _ A3.out).mono ?_); rintro e w' ⟨rfl, ⟨nd, rfl⟩⟩; refine ⟨_, rfl, ?_⟩))
 go_ret2
 exact ⟨by first | rfl | (simp; done) | (simp [*]; done), by repeat (first | exact Drawn0.refl _ | apply Drawn0.step)⟩

end Go.Proofs.Ytolncjkfcmbieaa.P
