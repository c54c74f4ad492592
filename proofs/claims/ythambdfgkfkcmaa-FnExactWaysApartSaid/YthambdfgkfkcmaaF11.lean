import Derived.Test.YthambdfgkfkcmaaF0
import Derived.Test.YthambdfgkfkcmaaF1
import Derived.Test.YthambdfgkfkcmaaF3
import Derived.Test.YthambdfgkfkcmaaF5
import Derived.Test.YthambdfgkfkcmaaF6
import Derived.Test.YthambdfgkfkcmaaF10
namespace Go.Proofs.Ythambdfgkfkcmaa.P
open Go.RowKit Go.Proofs.YthambdfgkfkcmaaW.PrintWords Go.Proofs.YthambdfgkfkcmaaW.PrintLast Go.Proofs.YthambdfgkfkcmaaW.PrintMore
attribute [local go_sem] max2_int min2_int max_two min_two max_three min_three max_four min_four   -- for this text's walks alone
set_option linter.unusedVariables false
set_option linter.unusedSimpArgs false

def laws_eqIntSS.l0 : Nat → List (List Int) → List (List Int) → Int → Option (Bool)
 | 0, _, _, _ => none
 | k + 1, x0, x1, x5 => if x5 < (x0.length : Int) then (if 0 ≤ x5 then (if x5 < (x1.length : Int) then ((laws_eqIntS.f k (rd_L3 x0 x5) (rd_L3 x1 x5)).bind fun t435 => (if t435 = true then (laws_eqIntSS.l0 k x0 x1 (wrap64 (x5 + 1))) else (some false))) else (none)) else (none)) else (some true)
def laws_eqIntSS.f (k : Nat) (l0 : List (List Int)) (l1 : List (List Int)) : Option (Bool) := if (l0.length : Int) = (l1.length : Int) then (laws_eqIntSS.l0 k l0 l1 0) else (some false)
theorem laws_eqIntSS.mono_l : ∀ k, (∀ y0 y1 y2, LeO (laws_eqIntSS.l0 k y0 y1 y2) (laws_eqIntSS.l0 (k + 1) y0 y1 y2))
 | 0 => fun _ _ _ r h => by simp [laws_eqIntSS.l0] at h
 | k + 1 => by
  have ih0 := laws_eqIntSS.mono_l k
  ·intro y0 y1 y2
   unfold laws_eqIntSS.l0
   repeat' first
   | (with_reducible exact ih0 _ _ _)
   | (with_reducible exact laws_eqIntS.mono _ _ _)
   | with_reducible first | exact LeO.refl _ | exact LeO.none _ | refine LeO.ite ?_ ?_ | refine LeO.bind ?_ fun _ => ?_
theorem laws_eqIntSS.mono : ∀ a0 a1 k, LeO (laws_eqIntSS.f k a0 a1) (laws_eqIntSS.f (k + 1) a0 a1) := by
 intro a0 a1 k
 have ih0 := laws_eqIntSS.mono_l k
 unfold laws_eqIntSS.f
 repeat' first
   | (with_reducible exact ih0 _ _ _)
   | (with_reducible exact laws_eqIntS.mono _ _ _)
   | with_reducible first | exact LeO.refl _ | exact LeO.none _ | refine LeO.ite ?_ ?_ | refine LeO.bind ?_ fun _ => ?_
set_option maxHeartbeats 8000000 in
set_option maxRecDepth 100000 in
theorem laws_eqIntSS.calls (k : Nat) (A0 : Option Addr) (c0 : Nat) (l0 : List (List Int)) (A1 : Option Addr) (c1 : Nat) (l1 : List (List Int)) (r : Bool) (w : World) (hr0 : Kd.C (Kd.slice 3 (Kd.int .i64)) w A0 l0.length l0) (hc0 : l0.length ≤ c0) (hr1 : Kd.C (Kd.slice 3 (Kd.int .i64)) w A1 l1.length l1) (hc1 : l1.length ≤ c1) (h : laws_eqIntSS.f k l0 l1 = some r) :
  Calls Try.prog 22 #[.slice A0 l0.length c0, .slice A1 l1.length c1] w fun e w' => e = .returned (.bool r) ∧ Drawn0 w w' := by
 have HR0 := Aside0.mk hr0
 have HC0 := Aside0.mk hc0
 clear hr0 hc0
 have HR1 := Aside0.mk hr1
 have HC1 := Aside0.mk hc1
 clear hr1 hc1
 have H : (if (l0.length : Int) = (l1.length : Int) then (laws_eqIntSS.l0 k l0 l1 0) else (some false)) = some r := h
 clear h
 by_cases c3 : (l0.length : Int) = (l1.length : Int)
 rotate_left
 ·rw [if_neg c3] at H
  have c3b0 : ((l0.length : Int) == (l1.length : Int)) = false := beq_eq_false_iff_ne.mpr c3
  have c3b1 : ((l0.length : Int) != (l1.length : Int)) = true := bne_iff_ne.mpr c3
  have c3b2 : (l0.length == l1.length) = false := by first | simpa using c3 | (simp at c3 ⊢; omega)
  obtain rfl := Option.some.inj H
  go_enter Try.func22, Try.ntmps22
  go_wp2
  repeat (go_quiet (fail); try go_wp2)
  go_ret
  exact ⟨by first | rfl | (simp; done) | (simp [*]; done), by repeat (first | exact Drawn0.refl _ | apply Drawn0.step)⟩
 rw [if_pos c3] at H
 have c3b0 : ((l0.length : Int) == (l1.length : Int)) = true := beq_iff_eq.mpr c3
 have c3b1 : ((l0.length : Int) != (l1.length : Int)) = false := bne_eq_false_iff_eq.mpr c3
 have c3b2 : (l0.length == l1.length) = true := by first | simpa using c3 | (simp at c3 ⊢; omega)
 clear c3
 have H' := Aside0.mk H
 clear H
 go_enter Try.func22, Try.ntmps22
 go_wp2
 repeat (go_quiet (fail); try go_wp2)
 go_loopg [5] k (fun kq v5 w' => ∃ (x5_1 : Int), v5 = .int .i64 x5_1 ∧ Aside0 (laws_eqIntSS.l0 kq l0 l1 x5_1 = some r) ∧ Aside0 (kq ≤ k) ∧ Drawn0 w w')
 case atStart => exact ⟨(0), (by first | rfl | (simp; done) | (simp [*]; done)), H', ⟨Nat.le_refl _⟩, by repeat (first | exact Drawn0.refl _ | apply Drawn0.step)⟩
 case round =>
  clear H'
  try clear c1
  try clear c3
  try clear c3b0
  try clear c3b1
  try clear c3b2
  obtain ⟨x5_1, rfl, HA, HK1, ⟨m1, rfl⟩⟩ := hrel
  cases gk with
  | zero => exact absurd HA.out (by simp [laws_eqIntSS.l0])
  | succ k1 =>
   have H := HA.out
   clear HA
   simp only [laws_eqIntSS.l0] at H
   by_cases c4 : x5_1 < (l0.length : Int)
   rotate_left
   ·rw [if_neg c4] at H
    have c4b0 : decide (x5_1 < (l0.length : Int)) = false := decide_eq_false c4
    clear c4
    obtain rfl := Option.some.inj H
    go_wp2
    repeat (go_quiet (fail); try go_wp2)
    go_ret
    exact ⟨by first | rfl | (simp; done) | (simp [*]; done), by repeat (first | exact Drawn0.refl _ | apply Drawn0.step)⟩
   rw [if_pos c4] at H
   have c4b0 : decide (x5_1 < (l0.length : Int)) = true := decide_eq_true c4
   clear c4
   by_cases c5 : 0 ≤ x5_1
   rotate_left
   ·rw [if_neg c5] at H
    exact absurd H (by simp)
   rw [if_pos c5] at H
   have c5b0 : decide (0 ≤ x5_1) = true := decide_eq_true c5
   clear c5
   by_cases c6 : x5_1 < (l1.length : Int)
   rotate_left
   ·rw [if_neg c6] at H
    exact absurd H (by simp)
   rw [if_pos c6] at H
   have c6b0 : decide (x5_1 < (l1.length : Int)) = true := decide_eq_true c6
   clear c6
   replace H := Option.bind_eq_some_iff.mp H
   obtain ⟨t435, A70, H⟩ := H
   replace H : (if t435 = true then (laws_eqIntSS.l0 k1 l0 l1 (wrap64 (x5_1 + 1))) else (some false)) = some r := H
   have A7 := Aside0.mk A70
   clear A70
   by_cases c8 : t435 = true
   rotate_left
   ·replace c8 := Bool.eq_false_iff.mpr c8
    subst c8
    rw [if_neg (show ¬ (false = true) by decide)] at H
    obtain rfl := Option.some.inj H
    have p433 : 0 ≤ (x5_1 : Int) := od_
    have q433 : x5_1 < (l0.length : Int) := od_
    obtain ⟨ad433, A433_0, c433_0, e433, hx433_0, hl433_0, hi433_0⟩ := at_L3 HR0.out x5_1 p433 q433
    cases e433
    have HR433_0 := Aside0.mk hi433_0
    have HC433_0 := Aside0.mk hl433_0
    clear hi433_0 hl433_0
    replace p433 := eq_true p433
    replace q433 := eq_true q433
    have p434 : 0 ≤ (x5_1 : Int) := od_
    have q434 : x5_1 < (l1.length : Int) := od_
    obtain ⟨ad434, A434_0, c434_0, e434, hx434_0, hl434_0, hi434_0⟩ := at_L3 HR1.out x5_1 p434 q434
    cases e434
    have HR434_0 := Aside0.mk hi434_0
    have HC434_0 := Aside0.mk hl434_0
    clear hi434_0 hl434_0
    replace p434 := eq_true p434
    replace q434 := eq_true q434
    go_wp2_with (first | (go_at_call 13; (with_reducible refine (laws_eqIntS.calls k1 _ _ (rd_L3 l0 x5_1) _ _ (rd_L3 l1 x5_1) false _ ?side1 ?side2 ?side3 ?side4 A7.out).mono ?_); (case side1 => exact ca HR433_0.out); (case side2 => exact HC433_0.out); (case side3 => exact ca HR434_0.out); (case side4 => exact HC434_0.out); rintro e w' ⟨rfl, ⟨nd, rfl⟩⟩; (try first | exact ⟨rfl, _, World.drewN_drewN _ _ _⟩ | exact ⟨rfl, _, Eq.trans (World.drewN_drewN _ _ _) (congrArg (World.drewN _) (Nat.add_assoc _ _ _))⟩)))
    repeat (go_quiet (first | (go_at_call 13; (with_reducible refine (laws_eqIntS.calls k1 _ _ (rd_L3 l0 x5_1) _ _ (rd_L3 l1 x5_1) false _ ?side1 ?side2 ?side3 ?side4 A7.out).mono ?_); (case side1 => exact ca HR433_0.out); (case side2 => exact HC433_0.out); (case side3 => exact ca HR434_0.out); (case side4 => exact HC434_0.out); rintro e w' ⟨rfl, ⟨nd, rfl⟩⟩; (try first | exact ⟨rfl, _, World.drewN_drewN _ _ _⟩ | exact ⟨rfl, _, Eq.trans (World.drewN_drewN _ _ _) (congrArg (World.drewN _) (Nat.add_assoc _ _ _))⟩))); try go_wp2_with (first | (go_at_call 13; (with_reducible refine (laws_eqIntS.calls k1 _ _ (rd_L3 l0 x5_1) _ _ (rd_L3 l1 x5_1) false _ ?side1 ?side2 ?side3 ?side4 A7.out).mono ?_); (case side1 => exact ca HR433_0.out); (case side2 => exact HC433_0.out); (case side3 => exact ca HR434_0.out); (case side4 => exact HC434_0.out); rintro e w' ⟨rfl, ⟨nd, rfl⟩⟩; (try first | exact ⟨rfl, _, World.drewN_drewN _ _ _⟩ | exact ⟨rfl, _, Eq.trans (World.drewN_drewN _ _ _) (congrArg (World.drewN _) (Nat.add_assoc _ _ _))⟩))))
    go_ret
    exact ⟨by first | rfl | (simp; done) | (simp [*]; done), by repeat (first | exact Drawn0.refl _ | apply Drawn0.step)⟩
   subst c8
   rw [if_pos rfl] at H
   have H' := Aside0.mk H
   clear H
   have p433 : 0 ≤ (x5_1 : Int) := od_
   have q433 : x5_1 < (l0.length : Int) := od_
   obtain ⟨ad433, A433_0, c433_0, e433, hx433_0, hl433_0, hi433_0⟩ := at_L3 HR0.out x5_1 p433 q433
   cases e433
   have HR433_0 := Aside0.mk hi433_0
   have HC433_0 := Aside0.mk hl433_0
   clear hi433_0 hl433_0
   replace p433 := eq_true p433
   replace q433 := eq_true q433
   have p434 : 0 ≤ (x5_1 : Int) := od_
   have q434 : x5_1 < (l1.length : Int) := od_
   obtain ⟨ad434, A434_0, c434_0, e434, hx434_0, hl434_0, hi434_0⟩ := at_L3 HR1.out x5_1 p434 q434
   cases e434
   have HR434_0 := Aside0.mk hi434_0
   have HC434_0 := Aside0.mk hl434_0
   clear hi434_0 hl434_0
   replace p434 := eq_true p434
   replace q434 := eq_true q434
   go_wp2_with (first | (go_at_call 13; (with_reducible refine (laws_eqIntS.calls k1 _ _ (rd_L3 l0 x5_1) _ _ (rd_L3 l1 x5_1) true _ ?side1 ?side2 ?side3 ?side4 A7.out).mono ?_); (case side1 => exact ca HR433_0.out); (case side2 => exact HC433_0.out); (case side3 => exact ca HR434_0.out); (case side4 => exact HC434_0.out); rintro e w' ⟨rfl, ⟨nd, rfl⟩⟩; (try first | exact ⟨rfl, _, World.drewN_drewN _ _ _⟩ | exact ⟨rfl, _, Eq.trans (World.drewN_drewN _ _ _) (congrArg (World.drewN _) (Nat.add_assoc _ _ _))⟩)))
   repeat (go_quiet (first | (go_at_call 13; (with_reducible refine (laws_eqIntS.calls k1 _ _ (rd_L3 l0 x5_1) _ _ (rd_L3 l1 x5_1) true _ ?side1 ?side2 ?side3 ?side4 A7.out).mono ?_); (case side1 => exact ca HR433_0.out); (case side2 => exact HC433_0.out); (case side3 => exact ca HR434_0.out); (case side4 => exact HC434_0.out); rintro e w' ⟨rfl, ⟨nd, rfl⟩⟩; (try first | exact ⟨rfl, _, World.drewN_drewN _ _ _⟩ | exact ⟨rfl, _, Eq.trans (World.drewN_drewN _ _ _) (congrArg (World.drewN _) (Nat.add_assoc _ _ _))⟩))); try go_wp2_with (first | (go_at_call 13; (with_reducible refine (laws_eqIntS.calls k1 _ _ (rd_L3 l0 x5_1) _ _ (rd_L3 l1 x5_1) true _ ?side1 ?side2 ?side3 ?side4 A7.out).mono ?_); (case side1 => exact ca HR433_0.out); (case side2 => exact HC433_0.out); (case side3 => exact ca HR434_0.out); (case side4 => exact HC434_0.out); rintro e w' ⟨rfl, ⟨nd, rfl⟩⟩; (try first | exact ⟨rfl, _, World.drewN_drewN _ _ _⟩ | exact ⟨rfl, _, Eq.trans (World.drewN_drewN _ _ _) (congrArg (World.drewN _) (Nat.add_assoc _ _ _))⟩))))
   go_roundg k1
   case measure => have := HK1.out; omega
   case rel => exact ⟨(wrap64 (x5_1 + 1)), (by first | rfl | (simp; done) | (simp [*]; done)), H', ⟨by have := HK1.out; omega⟩, by repeat (first | exact Drawn0.refl _ | apply Drawn0.step)⟩

def laws_markIntSS.l0 : Nat → List (List Int) → Int → Int → Option (Int × (List (List Int)))
 | 0, _, _, _ => none
 | k + 1, x0, x1, x5 => if x5 < (x0.length : Int) then (if 0 ≤ x5 then ((laws_markIntS.f k (x0.getD (x5 : Int).toNat ([] : List Int)) x1).bind fun bt => (laws_markIntSS.l0 k (x0.set (x5 : Int).toNat bt.2) bt.1 (wrap64 (x5 + 1)))) else (none)) else (some (x1, x0))
def laws_markIntSS.f (k : Nat) (l0 : List (List Int)) (a1 : Int) : Option (Int × (List (List Int))) := laws_markIntSS.l0 k l0 a1 0
theorem laws_markIntSS.mono_l : ∀ k, (∀ y0 y1 y2, LeO (laws_markIntSS.l0 k y0 y1 y2) (laws_markIntSS.l0 (k + 1) y0 y1 y2))
 | 0 => fun _ _ _ r h => by simp [laws_markIntSS.l0] at h
 | k + 1 => by
  have ih0 := laws_markIntSS.mono_l k
  ·intro y0 y1 y2
   unfold laws_markIntSS.l0
   repeat' first
   | (with_reducible exact ih0 _ _ _)
   | (with_reducible exact laws_markIntS.mono _ _ _)
   | (with_reducible exact LeO.refl _)
   | (with_reducible exact LeO.none _)
   | (with_reducible refine LeO.ite ?_ ?_)
   | (with_reducible refine LeO.bind ?_ (fun _ => ?_))
theorem laws_markIntSS.mono : ∀ a0 a1 k, LeO (laws_markIntSS.f k a0 a1) (laws_markIntSS.f (k + 1) a0 a1) := by
 intro a0 a1 k
 have ih0 := laws_markIntSS.mono_l k
 unfold laws_markIntSS.f
 exact ih0 _ _ _
theorem laws_markIntSS.len_l : ∀ (k : Nat) (x0 : List (List Int)) (x1 x5 r1 : Int) (r2 : List (List Int)), laws_markIntSS.l0 k x0 x1 x5 = some (r1, r2) → r2.length = x0.length
 | 0, _, _, _, _, _, h => by simp [laws_markIntSS.l0] at h
 | k + 1, x0, x1, x5, r1, r2, h => by
  simp only [laws_markIntSS.l0] at h
  split at h
  · split at h
    · obtain ⟨bt, _, h⟩ := Option.bind_eq_some_iff.mp h
      have := laws_markIntSS.len_l k _ _ _ _ _ h
      rwa [List.length_set] at this
    · cases h
  · simp only [Option.some.injEq, Prod.mk.injEq] at h
    rw [h.2]
theorem laws_markIntSS.len {k : Nat} {l : List (List Int)} {a r1 : Int} {r2 : List (List Int)} (h : laws_markIntSS.f k l a = some (r1, r2)) : r2.length = l.length := laws_markIntSS.len_l k l a 0 r1 r2 h
set_option maxHeartbeats 8000000 in
set_option maxRecDepth 100000 in
theorem laws_markIntSS.calls (k : Nat) (P0_ : Nat → Prop) (u9000_ : Value) (l0 : List (List Int)) (a1 : Int) (r1 : Int) (r2 : List (List Int)) (w0 w : World) (hB : Below w0.heap.size w0 w) (ho0 : Kd.S (Kd.slice 3 (Kd.int .i64)) 24 w w0.heap.size P0_ u9000_ l0) (h : laws_markIntSS.f k l0 a1 = some (r1, r2)) :
  Calls Try.prog 23 #[u9000_, .int .i64 a1] w fun e w' => e = .returned (.int .i64 r1) ∧ Kd.S (Kd.slice 3 (Kd.int .i64)) 24 w' w0.heap.size P0_ u9000_ r2 ∧ Below w0.heap.size w0 w' ∧ Kept w w' (fun k_ => P0_ k_) := by
 have HO0 := Aside0.mk ho0
 have HK := Aside0.mk (Kept.refl w (fun k_ => P0_ k_))
 have HB := Aside0.mk hB
 clear hB ho0
 have H : (laws_markIntSS.l0 k l0 a1 0) = some (r1, r2) := h
 clear h
 have H' := Aside0.mk H
 clear H
 go_enter Try.func23, Try.ntmps23
 go_wp2
 go_loopg [1, 5] k (fun kq v1 v5 w' => ∃ (x0_1 : List (List Int)) (x1_1 : Int) (x5_1 : Int), v1 = .int .i64 x1_1 ∧ v5 = .int .i64 x5_1 ∧ Aside0 (laws_markIntSS.l0 kq x0_1 x1_1 x5_1 = some (r1, r2)) ∧ Aside0 (kq ≤ k) ∧ Aside0 (Kd.S (Kd.slice 3 (Kd.int .i64)) 24 w' w0.heap.size P0_ u9000_ x0_1) ∧ Aside0 (Kept w w' (fun k_ => P0_ k_)) ∧ Aside0 (Below w0.heap.size w0 w'))
 case atStart => exact ⟨(l0), (a1), (0), rfl, rfl, H', ⟨Nat.le_refl _⟩, ⟨by (with_reducible repeat (first | apply Kd.S_alloc | apply Kd.S_drewN | apply Kd.S_drew)); exact HO0.out⟩, ⟨by repeat (first | (with_reducible first | exact HK.out | apply Kept.alloc | apply Kept.drewN | apply Kept.drew) | exact HK.out)⟩, ⟨hB HB⟩⟩
 case round =>
  clear H' HO0
  obtain ⟨x0_1, x1_1, x5_1, rfl, rfl, HA, HK1, HO_0, HK, HB⟩ := hrel
  cases gk with
  | zero => exact absurd HA.out (by simp [laws_markIntSS.l0])
  | succ k1 =>
   have H := HA.out
   clear HA
   simp only [laws_markIntSS.l0] at H
   by_cases c3 : x5_1 < (x0_1.length : Int)
   rotate_left
   ·rw [if_neg c3] at H
    have c3b0 : decide (x5_1 < (x0_1.length : Int)) = false := decide_eq_false c3
    clear c3
    simp only [Option.some.injEq, Prod.mk.injEq] at H
    obtain ⟨rfl, rfl⟩ := H
    obtain ⟨Ao15, co15, eo15⟩ := Kd.S_slice HO_0.out
    subst eo15
    go_wp2
    go_ret
    exact ⟨rfl, by (with_reducible repeat (first | apply Kd.S_alloc | apply Kd.S_drewN | apply Kd.S_drew)); exact HO_0.out, by repeat (first | (with_reducible first | exact HB.out | apply below_alloc | apply pw_below_drewN | apply below_drew1) | exact HB.out), by repeat (first | (with_reducible first | exact HK.out | apply Kept.alloc | apply Kept.drewN | apply Kept.drew) | exact HK.out)⟩
   rw [if_pos c3] at H
   have c3b0 : decide (x5_1 < (x0_1.length : Int)) = true := decide_eq_true c3
   by_cases c4 : 0 ≤ x5_1
   rotate_left
   ·rw [if_neg c4] at H
    exact absurd H (by simp)
   rw [if_pos c4] at H
   have c4b0 : decide (0 ≤ x5_1) = true := decide_eq_true c4
   replace H := Option.bind_eq_some_iff.mp H
   obtain ⟨⟨t1, t2⟩, A30, H⟩ := H
   replace H : laws_markIntSS.l0 k1 (x0_1.set (x5_1 : Int).toNat t2) t1 (wrap64 (x5_1 + 1)) = some (r1, r2) := H
   have H' := Aside0.mk H
   clear H
   have C3 := Aside0.mk c3
   have C4 := Aside0.mk c4
   obtain ⟨go5, co5, eo5, gb5, gl5, cl5, HG5⟩ := Kd.S_form HO_0.out (by omega)
   subst eo5
   have GB5 := Aside0.mk gb5
   have HMgo5 := Aside0.mk (show P0_ go5 from (HO_0.out.choose_spec.1 _ rfl))
   clear gb5 gl5 HG5
   obtain ⟨oki, ce, hcl, hM, hcc, hfr, hoki, hH⟩ := Kd.S_elem HO_0.out ([] : List Int) x5_1 c4 c3
   obtain ⟨v2, ece, hR2⟩ := hM
   subst ece
   generalize x0_1.getD (x5_1 : Int).toNat ([] : List Int) = X at hR2 A30
   have A3 := Aside0.mk A30
   clear A30
   obtain ⟨A2, c2, e2⟩ := Kd.R_slice hR2
   subst e2
   have hx5_0 : wr.cell? ⟨go5, (x5_1 : Int).toNat, none⟩ = some (.slice A2 X.length c2) := by
    have h_ := hcc 0 _ rfl
    simpa [Kd.slice] using h_
   have HH := Aside0.mk hH
   have HR := Aside0.mk (show (Kd.int .i64).R 3 wr w0.heap.size oki (.slice A2 X.length c2) X from hR2)
   have HPK := Aside0.mk (fun k_ (h_ : oki k_) => (hH.1 k_ h_))
   clear hcl hcc hfr hoki hH hR2 HO_0 c3 c4
   have p5 := eq_true C4.out
   have q5 := eq_true C3.out
   go_wp2_with (first | ((with_reducible refine gate_dst (N := 17) rfl ?_); refine goesL_ (some 17) rfl rfl Try.func16 (by kernel_rfl) rfl #[.slice A2 X.length c2, .int .i64 x1_1] rfl tm_ ?_; (with_reducible refine (laws_markIntS.calls k1 (fun k_ => some k_ = (.slice A2 X.length c2 : Value).ownBlock) (.slice A2 X.length c2) X x1_1 t1 t2 w0 _ ?side1 ?side2 A3.out).mono ?_); (case side1 => repeat (first | (with_reducible first | exact HB.out | apply below_alloc | apply pw_below_drewN | apply below_drew1) | exact HB.out)); (case side2 => exact Kd.R_tight rfl HR.out); rintro e w14 ⟨rfl, hy0, hb, hkp⟩; refine ⟨_, rfl, ?_⟩; have HS := Aside0.mk (Kd.H_back (okp := oki) (x' := t2) (Kd.H_kept HH.out hkp (fun k_ _ hn_ hs_ => hn_ (HR.out.1 k_ hs_.symm))) (Kd.M_row (Kd.R_reok rfl hy0 (fun k_ e_ => HR.out.1 k_ e_))) (fun _ hk_ => hk_)); replace HK := Aside0.mk (Kept.then_ (S := (fun k_ => P0_ k_)) (by repeat (first | (with_reducible first | exact HK.out | apply Kept.alloc | apply Kept.drewN | apply Kept.drew) | exact HK.out)) hkp (fun k_ hs_ => .inl (HPK.out k_ (HR.out.1 k_ hs_.symm)))); replace HB := Aside0.mk (hb); clear hb hkp hy0))
   go_roundg k1
   case measure => have := HK1.out; omega
   case rel => exact ⟨_, t1, (wrap64 (x5_1 + 1)), rfl, (by first | rfl | (simp; done) | (simp [*]; done)), H', ⟨by have := HK1.out; omega⟩, ⟨by (with_reducible repeat (first | apply Kd.S_alloc | apply Kd.S_drewN | apply Kd.S_drew)); exact HS.out⟩, ⟨by repeat (first | (with_reducible first | exact HK.out | apply Kept.alloc | apply Kept.drewN | apply Kept.drew) | exact HK.out)⟩, ⟨hB HB⟩⟩

def laws_heldIntSS.l0 : Nat → List (List Int) → Int → Int → Option (Int)
 | 0, _, _, _ => none
 | k + 1, x0, x1, x5 => if x5 < (x0.length : Int) then (if 0 ≤ x5 then ((laws_heldIntS.f k (rd_L3 x0 x5) x1).bind fun t438 => (if t438 < 0 then (some (-1)) else (laws_heldIntSS.l0 k x0 t438 (wrap64 (x5 + 1))))) else (none)) else (some x1)
def laws_heldIntSS.f (k : Nat) (l0 : List (List Int)) (a1 : Int) : Option (Int) := laws_heldIntSS.l0 k l0 a1 0
theorem laws_heldIntSS.mono_l : ∀ k, (∀ y0 y1 y2, LeO (laws_heldIntSS.l0 k y0 y1 y2) (laws_heldIntSS.l0 (k + 1) y0 y1 y2))
 | 0 => fun _ _ _ r h => by simp [laws_heldIntSS.l0] at h
 | k + 1 => by
  have ih0 := laws_heldIntSS.mono_l k
  ·intro y0 y1 y2
   unfold laws_heldIntSS.l0
   repeat' first
   | (with_reducible exact ih0 _ _ _)
   | (with_reducible exact laws_heldIntS.mono _ _ _)
   | with_reducible first | exact LeO.refl _ | exact LeO.none _ | refine LeO.ite ?_ ?_ | refine LeO.bind ?_ fun _ => ?_
theorem laws_heldIntSS.mono : ∀ a0 a1 k, LeO (laws_heldIntSS.f k a0 a1) (laws_heldIntSS.f (k + 1) a0 a1) := by
 intro a0 a1 k
 have ih0 := laws_heldIntSS.mono_l k
 unfold laws_heldIntSS.f
 repeat' first
   | (with_reducible exact ih0 _ _ _)
   | (with_reducible exact laws_heldIntS.mono _ _ _)
   | with_reducible first | exact LeO.refl _ | exact LeO.none _ | refine LeO.ite ?_ ?_ | refine LeO.bind ?_ fun _ => ?_
set_option maxHeartbeats 8000000 in
set_option maxRecDepth 100000 in
theorem laws_heldIntSS.calls (k : Nat) (A0 : Option Addr) (c0 : Nat) (l0 : List (List Int)) (a1 : Int) (r : Int) (w : World) (hr0 : Kd.C (Kd.slice 3 (Kd.int .i64)) w A0 l0.length l0) (hc0 : l0.length ≤ c0) (h : laws_heldIntSS.f k l0 a1 = some r) :
  Calls Try.prog 24 #[.slice A0 l0.length c0, .int .i64 a1] w fun e w' => e = .returned (.int .i64 r) ∧ Drawn0 w w' := by
 have HR0 := Aside0.mk hr0
 have HC0 := Aside0.mk hc0
 clear hr0 hc0
 have H : (laws_heldIntSS.l0 k l0 a1 0) = some r := h
 clear h
 have H' := Aside0.mk H
 clear H
 go_enter Try.func24, Try.ntmps24
 go_wp2
 go_loopg [1, 5] k (fun kq v1 v5 w' => ∃ (x1_1 : Int) (x5_1 : Int), v1 = .int .i64 x1_1 ∧ v5 = .int .i64 x5_1 ∧ Aside0 (laws_heldIntSS.l0 kq l0 x1_1 x5_1 = some r) ∧ Aside0 (kq ≤ k) ∧ Drawn0 w w')
 case atStart => exact ⟨(a1), (0), (by first | rfl | (simp; done) | (simp [*]; done)), (by first | rfl | (simp; done) | (simp [*]; done)), H', ⟨Nat.le_refl _⟩, by repeat (first | exact Drawn0.refl _ | apply Drawn0.step)⟩
 case round =>
  clear H'
  obtain ⟨x1_1, x5_1, rfl, rfl, HA, HK1, ⟨m1, rfl⟩⟩ := hrel
  cases gk with
  | zero => exact absurd HA.out (by simp [laws_heldIntSS.l0])
  | succ k1 =>
   have H := HA.out
   clear HA
   simp only [laws_heldIntSS.l0] at H
   by_cases c3 : x5_1 < (l0.length : Int)
   rotate_left
   ·rw [if_neg c3] at H
    have c3b0 : decide (x5_1 < (l0.length : Int)) = false := decide_eq_false c3
    clear c3
    obtain rfl := Option.some.inj H
    go_wp2
    go_ret
    exact ⟨by first | rfl | (simp; done) | (simp [*]; done), by repeat (first | exact Drawn0.refl _ | apply Drawn0.step)⟩
   rw [if_pos c3] at H
   have c3b0 : decide (x5_1 < (l0.length : Int)) = true := decide_eq_true c3
   clear c3
   by_cases c4 : 0 ≤ x5_1
   rotate_left
   ·rw [if_neg c4] at H
    exact absurd H (by simp)
   rw [if_pos c4] at H
   have c4b0 : decide (0 ≤ x5_1) = true := decide_eq_true c4
   clear c4
   replace H := Option.bind_eq_some_iff.mp H
   obtain ⟨t438, A50, H⟩ := H
   replace H : (if t438 < 0 then (some (-1)) else (laws_heldIntSS.l0 k1 l0 t438 (wrap64 (x5_1 + 1)))) = some r := H
   have A5 := Aside0.mk A50
   clear A50
   by_cases c6 : t438 < 0
   ·rw [if_pos c6] at H
    have c6b0 : decide (t438 < 0) = true := decide_eq_true c6
    clear c6
    obtain rfl := Option.some.inj H
    have p437 : 0 ≤ (x5_1 : Int) := od_
    have q437 : x5_1 < (l0.length : Int) := od_
    obtain ⟨ad437, A437_0, c437_0, e437, hx437_0, hl437_0, hi437_0⟩ := at_L3 HR0.out x5_1 p437 q437
    cases e437
    have HR437_0 := Aside0.mk hi437_0
    have HC437_0 := Aside0.mk hl437_0
    clear hi437_0 hl437_0
    replace p437 := eq_true p437
    replace q437 := eq_true q437
    go_wp2_with (first | (refine goesL_ (some 17) rfl rfl Try.func17 (by kernel_rfl) rfl #[.slice A437_0 (rd_L3 l0 x5_1).length c437_0, .int .i64 x1_1] rfl tm_ ?_; (with_reducible refine (laws_heldIntS.calls k1 _ _ (rd_L3 l0 x5_1) x1_1 t438 _ ?side1 ?side2 A5.out).mono ?_); (case side1 => exact ca HR437_0.out); (case side2 => exact HC437_0.out); rintro e w' ⟨rfl, ⟨nd, rfl⟩⟩; refine ⟨_, rfl, ?_⟩))
    go_ret
    exact ⟨by first | rfl | (simp; done) | (simp [*]; done), by repeat (first | exact Drawn0.refl _ | apply Drawn0.step)⟩
   rw [if_neg c6] at H
   have c6b0 : decide (t438 < 0) = false := decide_eq_false c6
   clear c6
   have H' := Aside0.mk H
   clear H
   have p437 : 0 ≤ (x5_1 : Int) := od_
   have q437 : x5_1 < (l0.length : Int) := od_
   obtain ⟨ad437, A437_0, c437_0, e437, hx437_0, hl437_0, hi437_0⟩ := at_L3 HR0.out x5_1 p437 q437
   cases e437
   have HR437_0 := Aside0.mk hi437_0
   have HC437_0 := Aside0.mk hl437_0
   clear hi437_0 hl437_0
   replace p437 := eq_true p437
   replace q437 := eq_true q437
   go_wp2_with (first | (refine goesL_ (some 17) rfl rfl Try.func17 (by kernel_rfl) rfl #[.slice A437_0 (rd_L3 l0 x5_1).length c437_0, .int .i64 x1_1] rfl tm_ ?_; (with_reducible refine (laws_heldIntS.calls k1 _ _ (rd_L3 l0 x5_1) x1_1 t438 _ ?side1 ?side2 A5.out).mono ?_); (case side1 => exact ca HR437_0.out); (case side2 => exact HC437_0.out); rintro e w' ⟨rfl, ⟨nd, rfl⟩⟩; refine ⟨_, rfl, ?_⟩))
   go_roundg k1
   case measure => have := HK1.out; omega
   case rel => exact ⟨(t438), (wrap64 (x5_1 + 1)), (by first | rfl | (simp; done) | (simp [*]; done)), (by first | rfl | (simp; done) | (simp [*]; done)), H', ⟨by have := HK1.out; omega⟩, by repeat (first | exact Drawn0.refl _ | apply Drawn0.step)⟩

mutual
def laws_FnExactWaysApart.j0 : Nat → Int → List (S69) → Int → Int → List (List Int) → Bool → List (S47) → List (List Int) → Bool → Bool → Option (Bool)
 | 0, _, _, _, _, _, _, _, _, _, _ => none
 | k + 1, x0, x1, x2, x3, x10, x11, x12, x13, x14, x52 => if x52 = true then (some false) else ((laws_toEdgeS.f k x1).bind fun t455 => ((laws_eqEdgeS.f k x12 t455).bind fun t458 => (if t458 = true then ((laws_markEdgeS.f k x12 1).bind fun bt459 => (if bt459.1 < 0 then (laws_FnExactWaysApart.j1 k x0 x1 x2 x3 x10 x11 x13 true) else ((laws_eqIntSS.f k x13 x10).bind fun t461 => (if t461 = true then (laws_FnExactWaysApart.j1 k x0 x1 x2 x3 x10 x11 x13 (x14 != x11)) else (laws_FnExactWaysApart.j1 k x0 x1 x2 x3 x10 x11 x13 true))))) else (some false))))
def laws_FnExactWaysApart.j1 : Nat → Int → List (S69) → Int → Int → List (List Int) → Bool → List (List Int) → Bool → Option (Bool)
 | 0, _, _, _, _, _, _, _, _ => none
 | k + 1, x0, x1, x2, x3, x10, x11, x13, x73 => if x73 = true then (some false) else ((laws_markIntSS.f k x13 1).bind fun mk => ((laws_heldIntSS.f k mk.2 1).bind fun t463 => (if t463 < 0 then (some false) else (if t463 = mk.1 then ((laws_toEdgeS.f k x1).bind fun t464 => ((impl_WaysApart.f k x0 t464 x2 x3).bind fun bt467 => ((laws_eqIntSS.f k bt467.1 x10).bind fun t471 => (if t471 = true then (laws_FnExactWaysApart.j2 k mk.2 mk.1 (bt467.2 != x11)) else (laws_FnExactWaysApart.j2 k mk.2 mk.1 true))))) else (some false)))))
def laws_FnExactWaysApart.j2 : Nat → List (List Int) → Int → Bool → Option (Bool)
 | 0, _, _, _ => none
 | k + 1, x13, x16, x102 => if x102 = true then (some false) else ((laws_heldIntSS.f k x13 1).bind fun t472 => (if t472 < 0 then (some false) else (if t472 = x16 then (some true) else (some false))))
end
def laws_FnExactWaysApart.f (k : Nat) (a0 : Int) (l1 : List (S69)) (a2 : Int) (a3 : Int) : Option (Bool) := (laws_szEdgeS.f l1 1048576).bind fun t439 => (if t439 < 0 then (some true) else ((laws_toEdgeS.f k l1).bind fun t440 => ((spec_WaysApart.f k a0 t440 a2 a3).bind fun bt443 => ((laws_toEdgeS.f k l1).bind fun t447 => ((impl_WaysApart.f k a0 t447 a2 a3).bind fun bt450 => ((laws_eqIntSS.f k bt450.1 bt443.1).bind fun t454 => (if t454 = true then (laws_FnExactWaysApart.j0 k a0 l1 a2 a3 bt443.1 bt443.2 t447 bt450.1 bt450.2 (bt450.2 != bt443.2)) else (laws_FnExactWaysApart.j0 k a0 l1 a2 a3 bt443.1 bt443.2 t447 bt450.1 bt450.2 true))))))))
theorem laws_FnExactWaysApart.mono_l : ∀ k, (∀ y0 y1 y2 y3 y4 y5 y6 y7 y8 y9, LeO (laws_FnExactWaysApart.j0 k y0 y1 y2 y3 y4 y5 y6 y7 y8 y9) (laws_FnExactWaysApart.j0 (k + 1) y0 y1 y2 y3 y4 y5 y6 y7 y8 y9)) ∧ (∀ y0 y1 y2 y3 y4 y5 y6 y7, LeO (laws_FnExactWaysApart.j1 k y0 y1 y2 y3 y4 y5 y6 y7) (laws_FnExactWaysApart.j1 (k + 1) y0 y1 y2 y3 y4 y5 y6 y7)) ∧ (∀ y0 y1 y2, LeO (laws_FnExactWaysApart.j2 k y0 y1 y2) (laws_FnExactWaysApart.j2 (k + 1) y0 y1 y2))
 | 0 => ⟨fun _ _ _ _ _ _ _ _ _ _ r h => by simp [laws_FnExactWaysApart.j0] at h, fun _ _ _ _ _ _ _ _ r h => by simp [laws_FnExactWaysApart.j1] at h, fun _ _ _ r h => by simp [laws_FnExactWaysApart.j2] at h⟩
 | k + 1 => by
  obtain ⟨ih0, ih1, ih2⟩ := laws_FnExactWaysApart.mono_l k
  refine ⟨?_, ?_, ?_⟩
  ·intro y0 y1 y2 y3 y4 y5 y6 y7 y8 y9
   unfold laws_FnExactWaysApart.j0
   repeat' first
   | (with_reducible exact ih0 _ _ _ _ _ _ _ _ _ _)
   | (with_reducible exact ih1 _ _ _ _ _ _ _ _)
   | (with_reducible exact ih2 _ _ _)
   | (with_reducible exact impl_WaysApart.mono _ _ _ _ _)
   | (with_reducible exact laws_eqEdgeS.mono _ _ _)
   | (with_reducible exact laws_eqIntSS.mono _ _ _)
   | (with_reducible exact laws_heldIntSS.mono _ _ _)
   | (with_reducible exact laws_markEdgeS.mono _ _ _)
   | (with_reducible exact laws_markIntSS.mono _ _ _)
   | (with_reducible exact laws_toEdgeS.mono _ _)
   | (with_reducible exact spec_WaysApart.mono _ _ _ _ _)
   | with_reducible first | exact LeO.refl _ | exact LeO.none _ | refine LeO.ite ?_ ?_ | refine LeO.bind ?_ fun _ => ?_
  ·intro y0 y1 y2 y3 y4 y5 y6 y7
   unfold laws_FnExactWaysApart.j1
   repeat' first
   | (with_reducible exact ih0 _ _ _ _ _ _ _ _ _ _)
   | (with_reducible exact ih1 _ _ _ _ _ _ _ _)
   | (with_reducible exact ih2 _ _ _)
   | (with_reducible exact impl_WaysApart.mono _ _ _ _ _)
   | (with_reducible exact laws_eqEdgeS.mono _ _ _)
   | (with_reducible exact laws_eqIntSS.mono _ _ _)
   | (with_reducible exact laws_heldIntSS.mono _ _ _)
   | (with_reducible exact laws_markEdgeS.mono _ _ _)
   | (with_reducible exact laws_markIntSS.mono _ _ _)
   | (with_reducible exact laws_toEdgeS.mono _ _)
   | (with_reducible exact spec_WaysApart.mono _ _ _ _ _)
   | with_reducible first | exact LeO.refl _ | exact LeO.none _ | refine LeO.ite ?_ ?_ | refine LeO.bind ?_ fun _ => ?_
  ·intro y0 y1 y2
   unfold laws_FnExactWaysApart.j2
   repeat' first
   | (with_reducible exact ih0 _ _ _ _ _ _ _ _ _ _)
   | (with_reducible exact ih1 _ _ _ _ _ _ _ _)
   | (with_reducible exact ih2 _ _ _)
   | (with_reducible exact impl_WaysApart.mono _ _ _ _ _)
   | (with_reducible exact laws_eqEdgeS.mono _ _ _)
   | (with_reducible exact laws_eqIntSS.mono _ _ _)
   | (with_reducible exact laws_heldIntSS.mono _ _ _)
   | (with_reducible exact laws_markEdgeS.mono _ _ _)
   | (with_reducible exact laws_markIntSS.mono _ _ _)
   | (with_reducible exact laws_toEdgeS.mono _ _)
   | (with_reducible exact spec_WaysApart.mono _ _ _ _ _)
   | with_reducible first | exact LeO.refl _ | exact LeO.none _ | refine LeO.ite ?_ ?_ | refine LeO.bind ?_ fun _ => ?_
theorem laws_FnExactWaysApart.mono : ∀ a0 a1 a2 a3 k, LeO (laws_FnExactWaysApart.f k a0 a1 a2 a3) (laws_FnExactWaysApart.f (k + 1) a0 a1 a2 a3) := by
 intro a0 a1 a2 a3 k
 obtain ⟨ih0, ih1, ih2⟩ := laws_FnExactWaysApart.mono_l k
 unfold laws_FnExactWaysApart.f
 repeat' first
   | (with_reducible exact ih0 _ _ _ _ _ _ _ _ _ _)
   | (with_reducible exact ih1 _ _ _ _ _ _ _ _)
   | (with_reducible exact ih2 _ _ _)
   | (with_reducible exact impl_WaysApart.mono _ _ _ _ _)
   | (with_reducible exact laws_eqEdgeS.mono _ _ _)
   | (with_reducible exact laws_eqIntSS.mono _ _ _)
   | (with_reducible exact laws_heldIntSS.mono _ _ _)
   | (with_reducible exact laws_markEdgeS.mono _ _ _)
   | (with_reducible exact laws_markIntSS.mono _ _ _)
   | (with_reducible exact laws_toEdgeS.mono _ _)
   | (with_reducible exact spec_WaysApart.mono _ _ _ _ _)
   | with_reducible first | exact LeO.refl _ | exact LeO.none _ | refine LeO.ite ?_ ?_ | refine LeO.bind ?_ fun _ => ?_
set_option maxHeartbeats 8000000 in
set_option maxRecDepth 100000 in
theorem laws_FnExactWaysApart.calls (k : Nat) (a0 : Int) (A1 : Option Addr) (c1 : Nat) (l1 : List (S69)) (a2 : Int) (a3 : Int) (r : Bool) (w : World) (hr1 : Kd.C k69 w A1 l1.length l1) (hc1 : l1.length ≤ c1) (h : laws_FnExactWaysApart.f k a0 l1 a2 a3 = some r) :
  Calls Try.prog 5 #[.int .i64 a0, .slice A1 l1.length c1, .int .i64 a2, .int .i64 a3] w fun e w' => e = .returned (.bool r) ∧ Below w.heap.size w w' := by
 have HR1 := Aside0.mk hr1
 have HC1 := Aside0.mk hc1
 clear hr1 hc1
 have HB := Aside0.mk (Below.refl w.heap.size w)
 have H : ((laws_szEdgeS.f l1 1048576).bind fun t439 => (if t439 < 0 then (some true) else ((laws_toEdgeS.f k l1).bind fun t440 => ((spec_WaysApart.f k a0 t440 a2 a3).bind fun bt443 => ((laws_toEdgeS.f k l1).bind fun t447 => ((impl_WaysApart.f k a0 t447 a2 a3).bind fun bt450 => ((laws_eqIntSS.f k bt450.1 bt443.1).bind fun t454 => (if t454 = true then (laws_FnExactWaysApart.j0 k a0 l1 a2 a3 bt443.1 bt443.2 t447 bt450.1 bt450.2 (bt450.2 != bt443.2)) else (laws_FnExactWaysApart.j0 k a0 l1 a2 a3 bt443.1 bt443.2 t447 bt450.1 bt450.2 true))))))))) = some r := h
 clear h
 replace H := Option.bind_eq_some_iff.mp H
 obtain ⟨t439, A50, H⟩ := H
 replace H : (if t439 < 0 then (some true) else ((laws_toEdgeS.f k l1).bind fun t440 => ((spec_WaysApart.f k a0 t440 a2 a3).bind fun bt443 => ((laws_toEdgeS.f k l1).bind fun t447 => ((impl_WaysApart.f k a0 t447 a2 a3).bind fun bt450 => ((laws_eqIntSS.f k bt450.1 bt443.1).bind fun t454 => (if t454 = true then (laws_FnExactWaysApart.j0 k a0 l1 a2 a3 bt443.1 bt443.2 t447 bt450.1 bt450.2 (bt450.2 != bt443.2)) else (laws_FnExactWaysApart.j0 k a0 l1 a2 a3 bt443.1 bt443.2 t447 bt450.1 bt450.2 true)))))))) = some r := H
 have A5 := Aside0.mk A50
 clear A50
 by_cases c6 : t439 < 0
 ·rw [if_pos c6] at H
  have c6b0 : decide (t439 < 0) = true := decide_eq_true c6
  clear c6
  obtain rfl := Option.some.inj H
  go_enter Try.func5, Try.ntmps5
  go_wp2_with (first | (refine goesL_ (some 22) rfl rfl Try.func9 (by kernel_rfl) rfl #[.slice A1 l1.length c1, .int .i64 1048576] rfl tm_ ?_; (with_reducible refine (laws_szEdgeS.calls _ _ l1 1048576 t439 _ ?side1 ?side2 A5.out).mono ?_); (case side1 => exact ca HR1.out); (case side2 => exact HC1.out); rintro e w' ⟨rfl, ⟨nd, rfl⟩⟩; refine ⟨_, rfl, ?_⟩))
  go_ret
  exact ⟨rt_, hB HB⟩
 rw [if_neg c6] at H
 have c6b0 : decide (t439 < 0) = false := decide_eq_false c6
 clear c6
 replace H := Option.bind_eq_some_iff.mp H
 obtain ⟨t440, A70, H⟩ := H
 replace H : ((spec_WaysApart.f k a0 t440 a2 a3).bind fun bt443 => ((laws_toEdgeS.f k l1).bind fun t447 => ((impl_WaysApart.f k a0 t447 a2 a3).bind fun bt450 => ((laws_eqIntSS.f k bt450.1 bt443.1).bind fun t454 => (if t454 = true then (laws_FnExactWaysApart.j0 k a0 l1 a2 a3 bt443.1 bt443.2 t447 bt450.1 bt450.2 (bt450.2 != bt443.2)) else (laws_FnExactWaysApart.j0 k a0 l1 a2 a3 bt443.1 bt443.2 t447 bt450.1 bt450.2 true)))))) = some r := H
 have A7 := Aside0.mk A70
 clear A70
 replace H := Option.bind_eq_some_iff.mp H
 obtain ⟨⟨t443, t444⟩, A80, H⟩ := H
 replace H : ((laws_toEdgeS.f k l1).bind fun t447 => ((impl_WaysApart.f k a0 t447 a2 a3).bind fun bt450 => ((laws_eqIntSS.f k bt450.1 t443).bind fun t454 => (if t454 = true then (laws_FnExactWaysApart.j0 k a0 l1 a2 a3 t443 t444 t447 bt450.1 bt450.2 (bt450.2 != t444)) else (laws_FnExactWaysApart.j0 k a0 l1 a2 a3 t443 t444 t447 bt450.1 bt450.2 true))))) = some r := H
 have A8 := Aside0.mk A80
 clear A80
 replace H := Option.bind_eq_some_iff.mp H
 obtain ⟨t447, A90, H⟩ := H
 replace H : ((impl_WaysApart.f k a0 t447 a2 a3).bind fun bt450 => ((laws_eqIntSS.f k bt450.1 t443).bind fun t454 => (if t454 = true then (laws_FnExactWaysApart.j0 k a0 l1 a2 a3 t443 t444 t447 bt450.1 bt450.2 (bt450.2 != t444)) else (laws_FnExactWaysApart.j0 k a0 l1 a2 a3 t443 t444 t447 bt450.1 bt450.2 true)))) = some r := H
 have A9 := Aside0.mk A90
 clear A90
 replace H := Option.bind_eq_some_iff.mp H
 obtain ⟨⟨t450, t451⟩, A100, H⟩ := H
 replace H : ((laws_eqIntSS.f k t450 t443).bind fun t454 => (if t454 = true then (laws_FnExactWaysApart.j0 k a0 l1 a2 a3 t443 t444 t447 t450 t451 (t451 != t444)) else (laws_FnExactWaysApart.j0 k a0 l1 a2 a3 t443 t444 t447 t450 t451 true))) = some r := H
 have A10 := Aside0.mk A100
 clear A100
 have HC11 := Aside0.mk H
 clear H
 go_enter Try.func5, Try.ntmps5
 go_upto_region 8 with (first | (refine goesL_ (some 22) rfl rfl Try.func9 (by kernel_rfl) rfl #[.slice A1 l1.length c1, .int .i64 1048576] rfl tm_ ?_; (with_reducible refine (laws_szEdgeS.calls _ _ l1 1048576 t439 _ ?side1 ?side2 A5.out).mono ?_); (case side1 => exact ca HR1.out); (case side2 => exact HC1.out); rintro e w' ⟨rfl, ⟨nd, rfl⟩⟩; refine ⟨_, rfl, ?_⟩) | (refine goesL_ (some 28) rfl rfl Try.func11 (by kernel_rfl) rfl #[.slice A1 l1.length c1] rfl tm_ ?_; (with_reducible refine (laws_toEdgeS.calls k _ _ l1 t440 _ ?side1 ?side2 A7.out).mono ?_); (case side1 => exact ca HR1.out); (case side2 => exact HC1.out); rintro e w12 ⟨v441, rfl, ho0, hb⟩; refine ⟨_, rfl, ?_⟩; have HO442 := Aside0.mk (Kd.R_lower ho0 (below_size (hB HB))); replace HB := bst_ HB hb; clear hb ho0; obtain ⟨Ao13, co13, eo13⟩ := Kd.R_slice HO442.out; subst eo13) | (refine goesL_ (some 31) rfl rfl Try.func20 (by kernel_rfl) rfl #[.int .i64 a0, .slice Ao13 t440.length co13, .int .i64 a2, .int .i64 a3] rfl tm_ ?_; (with_reducible refine (spec_WaysApart.calls k a0 _ _ t440 a2 a3 t443 t444 _ ?side1 ?side2 A8.out).mono ?_); (case side1 => exact ca (Kd.R_reads' HO442.out).2.2); (case side2 => exact (Kd.R_reads' HO442.out).2.1); rintro e w14 ⟨v445, rfl, ho0, hb⟩; refine ⟨_, rfl, ?_⟩; have HO446 := Aside0.mk (Kd.S_lower ho0 (below_size (hB HB))); replace HO442 := rb_ HO442 hb; replace HB := bst_ HB hb; clear hb ho0) | (refine goesL_ (some 35) rfl rfl Try.func11 (by kernel_rfl) rfl #[.slice A1 l1.length c1] rfl tm_ ?_; (with_reducible refine (laws_toEdgeS.calls k _ _ l1 t447 _ ?side1 ?side2 A9.out).mono ?_); (case side1 => exact cb_ HR1 HB); (case side2 => exact HC1.out); rintro e w15 ⟨v448, rfl, ho0, hb⟩; refine ⟨_, rfl, ?_⟩; have HO449 := Aside0.mk (Kd.R_lower (Kd.R_new' ho0 (rl_ HO442)) (below_size (hB HB))); replace HO442 := re_ HO442 ho0 hb; replace HO446 := Aside0.mk (Kd.S_below (sa HO446.out) hb); replace HB := bst_ HB hb; clear hb ho0; obtain ⟨Ao16, co16, eo16⟩ := Kd.R_slice HO449.out; subst eo16) | (refine goesL_ (some 41) rfl rfl Try.func21 (by kernel_rfl) rfl #[.int .i64 a0, .slice Ao16 t447.length co16, .int .i64 a2, .int .i64 a3] rfl tm_ ?_; (with_reducible refine (impl_WaysApart.calls k a0 _ _ t447 a2 a3 t450 t451 _ ?side1 ?side2 A10.out).mono ?_); (case side1 => exact ca (Kd.R_reads' HO449.out).2.2); (case side2 => exact (Kd.R_reads' HO449.out).2.1); rintro e w17 ⟨v452, rfl, ho0, hb⟩; refine ⟨_, rfl, ?_⟩; obtain ⟨T_, HO453, hz_⟩ : ∃ T_, Aside0 (Kd.S (Kd.slice 3 (Kd.int .i64)) 24 w17 w.heap.size (fun k_ => T_ ≤ k_) v452 t450) ∧ Aside0 (Kd.S (Kd.slice 3 (Kd.int .i64)) 24 w17 w.heap.size (fun k_ => k_ < T_) v445 t443) := ⟨_, ⟨Kd.S_lower (Kd.S_mono (Kd.S_bound ho0) (fun k hk => hk.2.1)) (below_size (hB HB))⟩, ⟨Kd.S_below (Kd.S_mono (Kd.S_bound (sa HO446.out)) (fun k hk => hk.2.2.1)) hb⟩⟩; replace HO446 := hz_; clear hz_; replace HO442 := rb_ HO442 hb; replace HO449 := rb_ HO449 hb; replace HB := bst_ HB hb; clear hb ho0))
 (try simp only [Act.put, List.setIfInBounds_toArray, List.set_cons_zero, List.set_cons_succ])
 go_cut [52] (fun v52 wc => ∃ (kq : Nat) (x52_10 : Bool), v52 = .bool x52_10 ∧ Aside0 (laws_FnExactWaysApart.j0 kq a0 l1 a2 a3 t443 t444 t447 t450 t451 x52_10 = some r) ∧ Aside0 (kq ≤ k) ∧ Aside0 (Kd.S (Kd.slice 3 (Kd.int .i64)) 24 wc w.heap.size (fun k_ => k_ < T_) v445 t443) ∧ Aside0 (Kd.R k47 47 wc w.heap.size (fun _ => True) (.slice Ao16 t447.length co16) t447) ∧ Aside0 (Kd.S (Kd.slice 3 (Kd.int .i64)) 24 wc w.heap.size (fun k_ => T_ ≤ k_) v452 t450) ∧ Aside0 (Below w.heap.size w wc))
 case first =>
  have H := HC11.out
  clear HC11
  replace H := Option.bind_eq_some_iff.mp H
  obtain ⟨t454, A180, H⟩ := H
  replace H : (if t454 = true then (laws_FnExactWaysApart.j0 k a0 l1 a2 a3 t443 t444 t447 t450 t451 (t451 != t444)) else (laws_FnExactWaysApart.j0 k a0 l1 a2 a3 t443 t444 t447 t450 t451 true)) = some r := H
  have A18 := Aside0.mk A180
  clear A180
  by_cases c19 : t454 = true
  ·subst c19
   rw [if_pos rfl] at H
   have H' := Aside0.mk H
   clear H
   obtain ⟨Ao20, co20, eo20⟩ := Kd.S_slice HO453.out
   subst eo20
   obtain ⟨Ao21, co21, eo21⟩ := Kd.S_slice HO446.out
   subst eo21
   go_wp2_with (first | (refine goesL_ (some 46) rfl rfl Try.func22 (by kernel_rfl) rfl #[.slice Ao20 t450.length co20, .slice Ao21 t443.length co21] rfl tm_ ?_; (with_reducible refine (laws_eqIntSS.calls k _ _ t450 _ _ t443 true _ ?side1 ?side2 ?side3 ?side4 A18.out).mono ?_); (case side1 => exact ca (Kd.S_reads' HO453.out).2.2); (case side2 => exact (Kd.S_reads' HO453.out).2.1); (case side3 => exact ca (Kd.S_reads' HO446.out).2.2); (case side4 => exact (Kd.S_reads' HO446.out).2.1); rintro e w' ⟨rfl, ⟨nd, rfl⟩⟩; refine ⟨_, rfl, ?_⟩))
   go_meet
   case rel => exact ⟨_, ((t451 != t444)), (by first | rfl | (simp; done) | (simp [*]; done)), H', ⟨by first | omega | exact Nat.le_refl _⟩, ⟨by (with_reducible repeat (first | apply Kd.S_alloc | apply Kd.S_drewN | apply Kd.S_drew)); exact HO446.out⟩, rm_ HO449 (fun _ hk => trivial), ⟨by (with_reducible repeat (first | apply Kd.S_alloc | apply Kd.S_drewN | apply Kd.S_drew)); exact HO453.out⟩, ⟨hB HB⟩⟩
  replace c19 := Bool.eq_false_iff.mpr c19
  subst c19
  rw [if_neg (show ¬ (false = true) by decide)] at H
  have H' := Aside0.mk H
  clear H
  obtain ⟨Ao22, co22, eo22⟩ := Kd.S_slice HO453.out
  subst eo22
  obtain ⟨Ao23, co23, eo23⟩ := Kd.S_slice HO446.out
  subst eo23
  go_wp2_with (first | (refine goesL_ (some 46) rfl rfl Try.func22 (by kernel_rfl) rfl #[.slice Ao22 t450.length co22, .slice Ao23 t443.length co23] rfl tm_ ?_; (with_reducible refine (laws_eqIntSS.calls k _ _ t450 _ _ t443 false _ ?side1 ?side2 ?side3 ?side4 A18.out).mono ?_); (case side1 => exact ca (Kd.S_reads' HO453.out).2.2); (case side2 => exact (Kd.S_reads' HO453.out).2.1); (case side3 => exact ca (Kd.S_reads' HO446.out).2.2); (case side4 => exact (Kd.S_reads' HO446.out).2.1); rintro e w' ⟨rfl, ⟨nd, rfl⟩⟩; refine ⟨_, rfl, ?_⟩))
  go_meet
  case rel => exact ⟨_, (true), (by first | rfl | (simp; done) | (simp [*]; done)), H', ⟨by first | omega | exact Nat.le_refl _⟩, ⟨by (with_reducible repeat (first | apply Kd.S_alloc | apply Kd.S_drewN | apply Kd.S_drew)); exact HO446.out⟩, rm_ HO449 (fun _ hk => trivial), ⟨by (with_reducible repeat (first | apply Kd.S_alloc | apply Kd.S_drewN | apply Kd.S_drew)); exact HO453.out⟩, ⟨hB HB⟩⟩
 case rest =>
  clear HC11
  try clear c1
  try clear c6
  try clear c6b0
  obtain ⟨kq, x52_10, rfl, HA, HJ10, HO_10, HO_12, HO_13, HB⟩ := hcut
  cases kq with
  | zero => exact absurd HA.out (by simp [laws_FnExactWaysApart.j0])
  | succ kj10 =>
   have H := HA.out
   clear HA
   simp only [laws_FnExactWaysApart.j0] at H
   by_cases c24 : x52_10 = true
   ·subst c24
    rw [if_pos rfl] at H
    obtain rfl := Option.some.inj H
    go_wp2
    go_ret
    exact ⟨rt_, hB HB⟩
   replace c24 := Bool.eq_false_iff.mpr c24
   subst c24
   rw [if_neg (show ¬ (false = true) by decide)] at H
   replace H := Option.bind_eq_some_iff.mp H
   obtain ⟨t455, A250, H⟩ := H
   replace H : ((laws_eqEdgeS.f kj10 t447 t455).bind fun t458 => (if t458 = true then ((laws_markEdgeS.f kj10 t447 1).bind fun bt459 => (if bt459.1 < 0 then (laws_FnExactWaysApart.j1 kj10 a0 l1 a2 a3 t443 t444 t450 true) else ((laws_eqIntSS.f kj10 t450 t443).bind fun t461 => (if t461 = true then (laws_FnExactWaysApart.j1 kj10 a0 l1 a2 a3 t443 t444 t450 (t451 != t444)) else (laws_FnExactWaysApart.j1 kj10 a0 l1 a2 a3 t443 t444 t450 true))))) else (some false))) = some r := H
   have A25 := Aside0.mk A250
   clear A250
   replace H := Option.bind_eq_some_iff.mp H
   obtain ⟨t458, A260, H⟩ := H
   replace H : (if t458 = true then ((laws_markEdgeS.f kj10 t447 1).bind fun bt459 => (if bt459.1 < 0 then (laws_FnExactWaysApart.j1 kj10 a0 l1 a2 a3 t443 t444 t450 true) else ((laws_eqIntSS.f kj10 t450 t443).bind fun t461 => (if t461 = true then (laws_FnExactWaysApart.j1 kj10 a0 l1 a2 a3 t443 t444 t450 (t451 != t444)) else (laws_FnExactWaysApart.j1 kj10 a0 l1 a2 a3 t443 t444 t450 true))))) else (some false)) = some r := H
   have A26 := Aside0.mk A260
   clear A260
   by_cases c27 : t458 = true
   rotate_left
   ·replace c27 := Bool.eq_false_iff.mpr c27
    subst c27
    rw [if_neg (show ¬ (false = true) by decide)] at H
    obtain rfl := Option.some.inj H
    go_wp2_with (first | (refine goesL_ (some 55) rfl rfl Try.func11 (by kernel_rfl) rfl #[.slice A1 l1.length c1] rfl tm_ ?_; (with_reducible refine (laws_toEdgeS.calls kj10 _ _ l1 t455 _ ?side1 ?side2 A25.out).mono ?_); (case side1 => exact cb_ HR1 HB); (case side2 => exact HC1.out); rintro e w65 ⟨v456, rfl, ho0, hb⟩; refine ⟨_, rfl, ?_⟩; have HO457 := Aside0.mk (Kd.R_lower (Kd.R_new' ho0 (rl_ HO_12)) (below_size (hB HB))); replace HO_10 := Aside0.mk (Kd.S_below (sa HO_10.out) hb); replace HO_12 := re_ HO_12 ho0 hb; replace HO_13 := Aside0.mk (Kd.S_below (sa HO_13.out) hb); replace HB := bst_ HB hb; clear hb ho0; obtain ⟨Ao66, co66, eo66⟩ := Kd.R_slice HO457.out; subst eo66) | (refine goesL_ (some 56) rfl rfl Try.func14 (by kernel_rfl) rfl #[.slice Ao16 t447.length co16, .slice Ao66 t455.length co66] rfl tm_ ?_; (with_reducible refine (laws_eqEdgeS.calls kj10 _ _ t447 _ _ t455 false _ ?side1 ?side2 ?side3 ?side4 A26.out).mono ?_); (case side1 => exact ca (Kd.R_reads' HO_12.out).2.2); (case side2 => exact (Kd.R_reads' HO_12.out).2.1); (case side3 => exact ca (Kd.R_reads' HO457.out).2.2); (case side4 => exact (Kd.R_reads' HO457.out).2.1); rintro e w67 ⟨rfl, hb⟩; refine ⟨_, rfl, ?_⟩; replace HO_10 := Aside0.mk (Kd.S_below (sa HO_10.out) hb); replace HO_12 := rb_ HO_12 hb; replace HO_13 := Aside0.mk (Kd.S_below (sa HO_13.out) hb); replace HO457 := rb_ HO457 hb; replace HB := bst_ HB hb; clear hb))
    go_ret
    exact ⟨rt_, hB HB⟩
   subst c27
   rw [if_pos rfl] at H
   replace H := Option.bind_eq_some_iff.mp H
   obtain ⟨⟨t459, t460⟩, A280, H⟩ := H
   replace H : (if t459 < 0 then (laws_FnExactWaysApart.j1 kj10 a0 l1 a2 a3 t443 t444 t450 true) else ((laws_eqIntSS.f kj10 t450 t443).bind fun t461 => (if t461 = true then (laws_FnExactWaysApart.j1 kj10 a0 l1 a2 a3 t443 t444 t450 (t451 != t444)) else (laws_FnExactWaysApart.j1 kj10 a0 l1 a2 a3 t443 t444 t450 true)))) = some r := H
   have A28 := Aside0.mk A280
   clear A280
   have HC29 := Aside0.mk H
   clear H
   go_upto_region 14 with (first | (refine goesL_ (some 55) rfl rfl Try.func11 (by kernel_rfl) rfl #[.slice A1 l1.length c1] rfl tm_ ?_; (with_reducible refine (laws_toEdgeS.calls kj10 _ _ l1 t455 _ ?side1 ?side2 A25.out).mono ?_); (case side1 => exact cb_ HR1 HB); (case side2 => exact HC1.out); rintro e w30 ⟨v456, rfl, ho0, hb⟩; refine ⟨_, rfl, ?_⟩; have HO457 := Aside0.mk (Kd.R_lower (Kd.R_new' ho0 (rl_ HO_12)) (below_size (hB HB))); replace HO_10 := Aside0.mk (Kd.S_below (sa HO_10.out) hb); replace HO_12 := re_ HO_12 ho0 hb; replace HO_13 := Aside0.mk (Kd.S_below (sa HO_13.out) hb); replace HB := bst_ HB hb; clear hb ho0; obtain ⟨Ao31, co31, eo31⟩ := Kd.R_slice HO457.out; subst eo31) | (refine goesL_ (some 56) rfl rfl Try.func14 (by kernel_rfl) rfl #[.slice Ao16 t447.length co16, .slice Ao31 t455.length co31] rfl tm_ ?_; (with_reducible refine (laws_eqEdgeS.calls kj10 _ _ t447 _ _ t455 true _ ?side1 ?side2 ?side3 ?side4 A26.out).mono ?_); (case side1 => exact ca (Kd.R_reads' HO_12.out).2.2); (case side2 => exact (Kd.R_reads' HO_12.out).2.1); (case side3 => exact ca (Kd.R_reads' HO457.out).2.2); (case side4 => exact (Kd.R_reads' HO457.out).2.1); rintro e w32 ⟨rfl, hb⟩; refine ⟨_, rfl, ?_⟩; replace HO_10 := Aside0.mk (Kd.S_below (sa HO_10.out) hb); replace HO_12 := rb_ HO_12 hb; replace HO_13 := Aside0.mk (Kd.S_below (sa HO_13.out) hb); replace HO457 := rb_ HO457 hb; replace HB := bst_ HB hb; clear hb) | (refine goesL_ (some 60) rfl rfl Try.func15 (by kernel_rfl) rfl #[.slice Ao16 t447.length co16, .int .i64 1] rfl tm_ ?_; (with_reducible refine (laws_markEdgeS.calls kj10 (fun k_ => some k_ = (.slice Ao16 t447.length co16 : Value).ownBlock) (.slice Ao16 t447.length co16) t447 1 t459 t460 w _ ?side1 ?side2 A28.out).mono ?_); (case side1 => exact hB HB); (case side2 => exact Kd.R_tight rfl HO_12.out); rintro e w33 ⟨rfl, hy0, hb, hkp⟩; refine ⟨_, rfl, ?_⟩; replace HO_10 := Aside0.mk (Kd.S_mono (ok' := fun k_ => k_ < T_) (Kd.S_keptB ((Kd.S_apart' HO_10.out (Kd.R_typed HO_12.out) (by decide))) hkp (fun k_ hk_ hs_ => (hk_.2) hs_)) (fun k_ hk_ => hk_.1.1)); replace HO_13 := Aside0.mk (Kd.S_mono (ok' := fun k_ => T_ ≤ k_) (Kd.S_keptB ((Kd.S_apart' HO_13.out (Kd.R_typed HO_12.out) (by decide))) hkp (fun k_ hk_ hs_ => (hk_.2) hs_)) (fun k_ hk_ => hk_.1.1)); replace HO_12 := Aside0.mk (Kd.R_reok rfl hy0 (fun k_ e_ => HO_12.out.1 k_ e_)); replace HO457 := Aside0.mk (Kd.R_mono (ok' := fun k_ => no_ (.slice Ao16 t447.length co16) k_) (Kd.R_keptB (HO457.out) hkp (fun k_ hk_ hs_ => (hk_.2) hs_)) (fun k_ hk_ => hk_.1.2)); replace HB := Aside0.mk (hb); clear hb))
   (try simp only [Act.put, List.setIfInBounds_toArray, List.set_cons_zero, List.set_cons_succ])
   go_cut [73] (fun v73 wc => ∃ (kq : Nat) (x73_28 : Bool), v73 = .bool x73_28 ∧ Aside0 (laws_FnExactWaysApart.j1 kq a0 l1 a2 a3 t443 t444 t450 x73_28 = some r) ∧ Aside0 (kq ≤ kj10) ∧ Aside0 (Kd.S (Kd.slice 3 (Kd.int .i64)) 24 wc w.heap.size (fun k_ => k_ < T_) v445 t443) ∧ Aside0 (Kd.S (Kd.slice 3 (Kd.int .i64)) 24 wc w.heap.size (fun k_ => T_ ≤ k_) v452 t450) ∧ Aside0 (Below w.heap.size w wc))
   case first =>
    have H := HC29.out
    clear HC29
    by_cases c34 : t459 < 0
    ·rw [if_pos c34] at H
     have c34b0 : decide (t459 < 0) = true := decide_eq_true c34
     clear c34
     (first | rw [c34b0] | (simp only [i64_w, i32_w]; rw [c34b0]) | skip)
     have H' := Aside0.mk H
     clear H
     go_wp2
     go_meet
     case rel => exact ⟨_, (true), (by first | rfl | (simp; done) | (simp [*]; done)), H', ⟨by have := HJ10.out; first | omega | exact Nat.le_refl _⟩, ⟨by (with_reducible repeat (first | apply Kd.S_alloc | apply Kd.S_drewN | apply Kd.S_drew)); exact HO_10.out⟩, ⟨by (with_reducible repeat (first | apply Kd.S_alloc | apply Kd.S_drewN | apply Kd.S_drew)); exact HO_13.out⟩, ⟨hB HB⟩⟩
    rw [if_neg c34] at H
    have c34b0 : decide (t459 < 0) = false := decide_eq_false c34
    clear c34
    (first | rw [c34b0] | (simp only [i64_w, i32_w]; rw [c34b0]) | skip)
    replace H := Option.bind_eq_some_iff.mp H
    obtain ⟨t461, A350, H⟩ := H
    replace H : (if t461 = true then (laws_FnExactWaysApart.j1 kj10 a0 l1 a2 a3 t443 t444 t450 (t451 != t444)) else (laws_FnExactWaysApart.j1 kj10 a0 l1 a2 a3 t443 t444 t450 true)) = some r := H
    have A35 := Aside0.mk A350
    clear A350
    by_cases c36 : t461 = true
    ·subst c36
     rw [if_pos rfl] at H
     have H' := Aside0.mk H
     clear H
     obtain ⟨Ao37, co37, eo37⟩ := Kd.S_slice HO_13.out
     subst eo37
     obtain ⟨Ao38, co38, eo38⟩ := Kd.S_slice HO_10.out
     subst eo38
     go_wp2_with (first | (go_at_call 22; (with_reducible refine (laws_eqIntSS.calls kj10 _ _ t450 _ _ t443 true _ ?side1 ?side2 ?side3 ?side4 A35.out).mono ?_); (case side1 => exact ca (Kd.S_reads' HO_13.out).2.2); (case side2 => exact (Kd.S_reads' HO_13.out).2.1); (case side3 => exact ca (Kd.S_reads' HO_10.out).2.2); (case side4 => exact (Kd.S_reads' HO_10.out).2.1); rintro e w' ⟨rfl, ⟨nd, rfl⟩⟩))
     go_meet
     case rel => exact ⟨_, ((t451 != t444)), (by first | rfl | (simp; done) | (simp [*]; done)), H', ⟨by have := HJ10.out; first | omega | exact Nat.le_refl _⟩, ⟨by (with_reducible repeat (first | apply Kd.S_alloc | apply Kd.S_drewN | apply Kd.S_drew)); exact HO_10.out⟩, ⟨by (with_reducible repeat (first | apply Kd.S_alloc | apply Kd.S_drewN | apply Kd.S_drew)); exact HO_13.out⟩, ⟨hB HB⟩⟩
    replace c36 := Bool.eq_false_iff.mpr c36
    subst c36
    rw [if_neg (show ¬ (false = true) by decide)] at H
    have H' := Aside0.mk H
    clear H
    obtain ⟨Ao39, co39, eo39⟩ := Kd.S_slice HO_13.out
    subst eo39
    obtain ⟨Ao40, co40, eo40⟩ := Kd.S_slice HO_10.out
    subst eo40
    go_wp2_with (first | (go_at_call 22; (with_reducible refine (laws_eqIntSS.calls kj10 _ _ t450 _ _ t443 false _ ?side1 ?side2 ?side3 ?side4 A35.out).mono ?_); (case side1 => exact ca (Kd.S_reads' HO_13.out).2.2); (case side2 => exact (Kd.S_reads' HO_13.out).2.1); (case side3 => exact ca (Kd.S_reads' HO_10.out).2.2); (case side4 => exact (Kd.S_reads' HO_10.out).2.1); rintro e w' ⟨rfl, ⟨nd, rfl⟩⟩))
    go_meet
    case rel => exact ⟨_, (true), (by first | rfl | (simp; done) | (simp [*]; done)), H', ⟨by have := HJ10.out; first | omega | exact Nat.le_refl _⟩, ⟨by (with_reducible repeat (first | apply Kd.S_alloc | apply Kd.S_drewN | apply Kd.S_drew)); exact HO_10.out⟩, ⟨by (with_reducible repeat (first | apply Kd.S_alloc | apply Kd.S_drewN | apply Kd.S_drew)); exact HO_13.out⟩, ⟨hB HB⟩⟩
   case rest =>
    clear HC29
    try clear c1
    try clear c6
    try clear c6b0
    try clear c24
    try clear c27
    obtain ⟨kq, x73_28, rfl, HA, HJ28, HO_10, HO_13, HB⟩ := hcut
    cases kq with
    | zero => exact absurd HA.out (by simp [laws_FnExactWaysApart.j1])
    | succ kj28 =>
     have H := HA.out
     clear HA
     simp only [laws_FnExactWaysApart.j1] at H
     by_cases c41 : x73_28 = true
     ·subst c41
      rw [if_pos rfl] at H
      obtain rfl := Option.some.inj H
      go_wp2
      go_ret
      exact ⟨rt_, hB HB⟩
     replace c41 := Bool.eq_false_iff.mpr c41
     subst c41
     rw [if_neg (show ¬ (false = true) by decide)] at H
     replace H := Option.bind_eq_some_iff.mp H
     obtain ⟨⟨t462, t450m⟩, A420, H⟩ := H
     replace H : ((laws_heldIntSS.f kj28 t450m 1).bind fun t463 => (if t463 < 0 then (some false) else (if t463 = t462 then ((laws_toEdgeS.f kj28 l1).bind fun t464 => ((impl_WaysApart.f kj28 a0 t464 a2 a3).bind fun bt467 => ((laws_eqIntSS.f kj28 bt467.1 t443).bind fun t471 => (if t471 = true then (laws_FnExactWaysApart.j2 kj28 t450m t462 (bt467.2 != t444)) else (laws_FnExactWaysApart.j2 kj28 t450m t462 true))))) else (some false)))) = some r := H
     have A42 := Aside0.mk A420
     have hlm_ : Aside0 (t450m.length = t450.length) := Aside0.mk (laws_markIntSS.len A42.out)
     clear A420
     replace H := Option.bind_eq_some_iff.mp H
     obtain ⟨t463, A430, H⟩ := H
     replace H : (if t463 < 0 then (some false) else (if t463 = t462 then ((laws_toEdgeS.f kj28 l1).bind fun t464 => ((impl_WaysApart.f kj28 a0 t464 a2 a3).bind fun bt467 => ((laws_eqIntSS.f kj28 bt467.1 t443).bind fun t471 => (if t471 = true then (laws_FnExactWaysApart.j2 kj28 t450m t462 (bt467.2 != t444)) else (laws_FnExactWaysApart.j2 kj28 t450m t462 true))))) else (some false))) = some r := H
     have A43 := Aside0.mk A430
     clear A430
     by_cases c44 : t463 < 0
     ·rw [if_pos c44] at H
      have c44b0 : decide (t463 < 0) = true := decide_eq_true c44
      clear c44
      obtain rfl := Option.some.inj H
      obtain ⟨Ao45, co45, eo45⟩ := Kd.S_slice HO_13.out
      subst eo45
      rw [← hlm_.out] at HO_13 ⊢
      go_wp2_with (first | (refine goesL_ (some 76) rfl rfl Try.func23 (by kernel_rfl) rfl #[.slice Ao45 t450m.length co45, .int .i64 1] rfl tm_ ?_; (with_reducible refine (laws_markIntSS.calls kj28 (fun k_ => T_ ≤ k_) _ t450 1 t462 t450m w _ ?side1 ?side2 A42.out).mono ?_); (case side1 => exact hB HB); (case side2 => exact sa HO_13.out); rintro e wm_ ⟨rfl, hy0, hb, hkp⟩; refine ⟨_, rfl, ?_⟩; replace HO_13 := Aside0.mk hy0; replace HO_10 := Aside0.mk (Kd.S_kept (sa HO_10.out) hkp (fun k_ h1_ h2_ => Nat.lt_irrefl _ (Nat.lt_of_lt_of_le h1_ h2_))); replace HB := Aside0.mk hb; clear hb hkp hy0) | (refine goesL_ (some 79) rfl rfl Try.func24 (by kernel_rfl) rfl #[.slice Ao45 t450m.length co45, .int .i64 1] rfl tm_ ?_; (with_reducible refine (laws_heldIntSS.calls kj28 _ _ t450m 1 t463 _ ?side1 ?side2 A43.out).mono ?_); (case side1 => exact ca (Kd.S_reads' HO_13.out).2.2); (case side2 => exact (Kd.S_reads' HO_13.out).2.1); rintro e w' ⟨rfl, ⟨nd, rfl⟩⟩; refine ⟨_, rfl, ?_⟩))
      go_ret
      exact ⟨rt_, hB HB⟩
     rw [if_neg c44] at H
     have c44b0 : decide (t463 < 0) = false := decide_eq_false c44
     clear c44
     by_cases c46 : t463 = t462
     rotate_left
     ·rw [if_neg c46] at H
      have c46b0 : (t463 == t462) = false := beq_eq_false_iff_ne.mpr c46
      have c46b1 : (t463 != t462) = true := bne_iff_ne.mpr c46
      obtain rfl := Option.some.inj H
      obtain ⟨Ao64, co64, eo64⟩ := Kd.S_slice HO_13.out
      subst eo64
      rw [← hlm_.out] at HO_13 ⊢
      go_wp2_with (first | (refine goesL_ (some 76) rfl rfl Try.func23 (by kernel_rfl) rfl #[.slice Ao64 t450m.length co64, .int .i64 1] rfl tm_ ?_; (with_reducible refine (laws_markIntSS.calls kj28 (fun k_ => T_ ≤ k_) _ t450 1 t462 t450m w _ ?side1 ?side2 A42.out).mono ?_); (case side1 => exact hB HB); (case side2 => exact sa HO_13.out); rintro e wm_ ⟨rfl, hy0, hb, hkp⟩; refine ⟨_, rfl, ?_⟩; replace HO_13 := Aside0.mk hy0; replace HO_10 := Aside0.mk (Kd.S_kept (sa HO_10.out) hkp (fun k_ h1_ h2_ => Nat.lt_irrefl _ (Nat.lt_of_lt_of_le h1_ h2_))); replace HB := Aside0.mk hb; clear hb hkp hy0) | (refine goesL_ (some 79) rfl rfl Try.func24 (by kernel_rfl) rfl #[.slice Ao64 t450m.length co64, .int .i64 1] rfl tm_ ?_; (with_reducible refine (laws_heldIntSS.calls kj28 _ _ t450m 1 t463 _ ?side1 ?side2 A43.out).mono ?_); (case side1 => exact ca (Kd.S_reads' HO_13.out).2.2); (case side2 => exact (Kd.S_reads' HO_13.out).2.1); rintro e w' ⟨rfl, ⟨nd, rfl⟩⟩; refine ⟨_, rfl, ?_⟩))
      go_ret
      exact ⟨rt_, hB HB⟩
     rw [if_pos c46] at H
     have c46b0 : (t463 == t462) = true := beq_iff_eq.mpr c46
     have c46b1 : (t463 != t462) = false := bne_eq_false_iff_eq.mpr c46
     clear c46
     replace H := Option.bind_eq_some_iff.mp H
     obtain ⟨t464, A470, H⟩ := H
     replace H : ((impl_WaysApart.f kj28 a0 t464 a2 a3).bind fun bt467 => ((laws_eqIntSS.f kj28 bt467.1 t443).bind fun t471 => (if t471 = true then (laws_FnExactWaysApart.j2 kj28 t450m t462 (bt467.2 != t444)) else (laws_FnExactWaysApart.j2 kj28 t450m t462 true)))) = some r := H
     have A47 := Aside0.mk A470
     clear A470
     replace H := Option.bind_eq_some_iff.mp H
     obtain ⟨⟨t467, t468⟩, A480, H⟩ := H
     replace H : ((laws_eqIntSS.f kj28 t467 t443).bind fun t471 => (if t471 = true then (laws_FnExactWaysApart.j2 kj28 t450m t462 (t468 != t444)) else (laws_FnExactWaysApart.j2 kj28 t450m t462 true))) = some r := H
     have A48 := Aside0.mk A480
     clear A480
     have HC49 := Aside0.mk H
     clear H
     obtain ⟨Ao50, co50, eo50⟩ := Kd.S_slice HO_13.out
     subst eo50
     rw [← hlm_.out] at HO_13 ⊢
     go_upto_region 25 with (first | (refine goesL_ (some 76) rfl rfl Try.func23 (by kernel_rfl) rfl #[.slice Ao50 t450m.length co50, .int .i64 1] rfl tm_ ?_; (with_reducible refine (laws_markIntSS.calls kj28 (fun k_ => T_ ≤ k_) _ t450 1 t462 t450m w _ ?side1 ?side2 A42.out).mono ?_); (case side1 => exact hB HB); (case side2 => exact sa HO_13.out); rintro e wm_ ⟨rfl, hy0, hb, hkp⟩; refine ⟨_, rfl, ?_⟩; replace HO_13 := Aside0.mk hy0; replace HO_10 := Aside0.mk (Kd.S_kept (sa HO_10.out) hkp (fun k_ h1_ h2_ => Nat.lt_irrefl _ (Nat.lt_of_lt_of_le h1_ h2_))); replace HB := Aside0.mk hb; clear hb hkp hy0) | (refine goesL_ (some 79) rfl rfl Try.func24 (by kernel_rfl) rfl #[.slice Ao50 t450m.length co50, .int .i64 1] rfl tm_ ?_; (with_reducible refine (laws_heldIntSS.calls kj28 _ _ t450m 1 t463 _ ?side1 ?side2 A43.out).mono ?_); (case side1 => exact ca (Kd.S_reads' HO_13.out).2.2); (case side2 => exact (Kd.S_reads' HO_13.out).2.1); rintro e w' ⟨rfl, ⟨nd, rfl⟩⟩; refine ⟨_, rfl, ?_⟩) | (refine goesL_ (some 88) rfl rfl Try.func11 (by kernel_rfl) rfl #[.slice A1 l1.length c1] rfl tm_ ?_; (with_reducible refine (laws_toEdgeS.calls kj28 _ _ l1 t464 _ ?side1 ?side2 A47.out).mono ?_); (case side1 => exact ca (Kd.C_below HR1.out (hB HB))); (case side2 => exact HC1.out); rintro e w51 ⟨v465, rfl, ho0, hb⟩; refine ⟨_, rfl, ?_⟩; have HO466 := Aside0.mk (Kd.R_lower ho0 (below_size (hB HB))); replace HO_10 := Aside0.mk (Kd.S_below (sa HO_10.out) hb); replace HO_13 := Aside0.mk (Kd.S_below (sa HO_13.out) hb); replace HB := bst_ HB hb; clear hb ho0; obtain ⟨Ao52, co52, eo52⟩ := Kd.R_slice HO466.out; subst eo52) | (refine goesL_ (some 91) rfl rfl Try.func21 (by kernel_rfl) rfl #[.int .i64 a0, .slice Ao52 t464.length co52, .int .i64 a2, .int .i64 a3] rfl tm_ ?_; (with_reducible refine (impl_WaysApart.calls kj28 a0 _ _ t464 a2 a3 t467 t468 _ ?side1 ?side2 A48.out).mono ?_); (case side1 => exact ca (Kd.R_reads' HO466.out).2.2); (case side2 => exact (Kd.R_reads' HO466.out).2.1); rintro e w53 ⟨v469, rfl, ho0, hb⟩; refine ⟨_, rfl, ?_⟩; have HO470 := Aside0.mk (Kd.S_lower (Kd.S_new' (Kd.S_new' ho0 (Kd.S_lt (sa HO_10.out))) (Kd.S_lt (sa HO_13.out))) (below_size (hB HB))); replace HO_10 := Aside0.mk (Kd.S_elder' (sa HO_10.out) (Kd.S_base ho0) hb); replace HO_13 := Aside0.mk (Kd.S_elder' (sa HO_13.out) (Kd.S_base ho0) hb); replace HO466 := rb_ HO466 hb; replace HB := bst_ HB hb; clear hb ho0))
     (try simp only [Act.put, List.setIfInBounds_toArray, List.set_cons_zero, List.set_cons_succ])
     go_cut [102] (fun v102 wc => ∃ (kq : Nat) (x102_48 : Bool), v102 = .bool x102_48 ∧ Aside0 (laws_FnExactWaysApart.j2 kq t450m t462 x102_48 = some r) ∧ Aside0 (kq ≤ kj28) ∧ Aside0 (Kd.S (Kd.slice 3 (Kd.int .i64)) 24 wc w.heap.size (fun _ => True) (.slice Ao50 t450m.length co50) t450m) ∧ Aside0 (Below w.heap.size w wc))
     case first =>
      have H := HC49.out
      clear HC49
      replace H := Option.bind_eq_some_iff.mp H
      obtain ⟨t471, A540, H⟩ := H
      replace H : (if t471 = true then (laws_FnExactWaysApart.j2 kj28 t450m t462 (t468 != t444)) else (laws_FnExactWaysApart.j2 kj28 t450m t462 true)) = some r := H
      have A54 := Aside0.mk A540
      clear A540
      by_cases c55 : t471 = true
      ·subst c55
       rw [if_pos rfl] at H
       have H' := Aside0.mk H
       clear H
       obtain ⟨Ao56, co56, eo56⟩ := Kd.S_slice HO470.out
       subst eo56
       obtain ⟨Ao57, co57, eo57⟩ := Kd.S_slice HO_10.out
       subst eo57
       go_wp2_with (first | (refine goesL_ (some 96) rfl rfl Try.func22 (by kernel_rfl) rfl #[.slice Ao56 t467.length co56, .slice Ao57 t443.length co57] rfl tm_ ?_; (with_reducible refine (laws_eqIntSS.calls kj28 _ _ t467 _ _ t443 true _ ?side1 ?side2 ?side3 ?side4 A54.out).mono ?_); (case side1 => exact ca (Kd.S_reads' HO470.out).2.2); (case side2 => exact (Kd.S_reads' HO470.out).2.1); (case side3 => exact ca (Kd.S_reads' HO_10.out).2.2); (case side4 => exact (Kd.S_reads' HO_10.out).2.1); rintro e w' ⟨rfl, ⟨nd, rfl⟩⟩; refine ⟨_, rfl, ?_⟩))
       go_meet
       case rel => exact ⟨_, ((t468 != t444)), (by first | rfl | (simp; done) | (simp [*]; done)), H', ⟨by have := HJ10.out; have := HJ28.out; first | omega | exact Nat.le_refl _⟩, ⟨by (with_reducible repeat (first | apply Kd.S_alloc | apply Kd.S_drewN | apply Kd.S_drew)); exact Kd.S_mono HO_13.out (fun _ hk => trivial)⟩, ⟨hB HB⟩⟩
      replace c55 := Bool.eq_false_iff.mpr c55
      subst c55
      rw [if_neg (show ¬ (false = true) by decide)] at H
      have H' := Aside0.mk H
      clear H
      obtain ⟨Ao58, co58, eo58⟩ := Kd.S_slice HO470.out
      subst eo58
      obtain ⟨Ao59, co59, eo59⟩ := Kd.S_slice HO_10.out
      subst eo59
      go_wp2_with (first | (refine goesL_ (some 96) rfl rfl Try.func22 (by kernel_rfl) rfl #[.slice Ao58 t467.length co58, .slice Ao59 t443.length co59] rfl tm_ ?_; (with_reducible refine (laws_eqIntSS.calls kj28 _ _ t467 _ _ t443 false _ ?side1 ?side2 ?side3 ?side4 A54.out).mono ?_); (case side1 => exact ca (Kd.S_reads' HO470.out).2.2); (case side2 => exact (Kd.S_reads' HO470.out).2.1); (case side3 => exact ca (Kd.S_reads' HO_10.out).2.2); (case side4 => exact (Kd.S_reads' HO_10.out).2.1); rintro e w' ⟨rfl, ⟨nd, rfl⟩⟩; refine ⟨_, rfl, ?_⟩))
      go_meet
      case rel => exact ⟨_, (true), (by first | rfl | (simp; done) | (simp [*]; done)), H', ⟨by have := HJ10.out; have := HJ28.out; first | omega | exact Nat.le_refl _⟩, ⟨by (with_reducible repeat (first | apply Kd.S_alloc | apply Kd.S_drewN | apply Kd.S_drew)); exact Kd.S_mono HO_13.out (fun _ hk => trivial)⟩, ⟨hB HB⟩⟩
     case rest =>
      clear HC49
      try clear c1
      try clear c6
      try clear c6b0
      try clear c24
      try clear c27
      try clear c41
      try clear c44
      try clear c44b0
      try clear c46
      try clear c46b0
      try clear c46b1
      obtain ⟨kq, x102_48, rfl, HA, HJ48, HO_13, HB⟩ := hcut
      cases kq with
      | zero => exact absurd HA.out (by simp [laws_FnExactWaysApart.j2])
      | succ kj48 =>
       have H := HA.out
       clear HA
       simp only [laws_FnExactWaysApart.j2] at H
       by_cases c60 : x102_48 = true
       ·subst c60
        rw [if_pos rfl] at H
        obtain rfl := Option.some.inj H
        go_wp2
        go_ret
        exact ⟨rt_, hB HB⟩
       replace c60 := Bool.eq_false_iff.mpr c60
       subst c60
       rw [if_neg (show ¬ (false = true) by decide)] at H
       replace H := Option.bind_eq_some_iff.mp H
       obtain ⟨t472, A610, H⟩ := H
       replace H : (if t472 < 0 then (some false) else (if t472 = t462 then (some true) else (some false))) = some r := H
       have A61 := Aside0.mk A610
       clear A610
       by_cases c62 : t472 < 0
       ·rw [if_pos c62] at H
        have c62b0 : decide (t472 < 0) = true := decide_eq_true c62
        clear c62
        obtain rfl := Option.some.inj H
        go_wp2_with (first | (refine goesL_ (some 105) rfl rfl Try.func24 (by kernel_rfl) rfl #[.slice Ao50 t450m.length co50, .int .i64 1] rfl tm_ ?_; (with_reducible refine (laws_heldIntSS.calls kj48 _ _ t450m 1 t472 _ ?side1 ?side2 A61.out).mono ?_); (case side1 => exact ca (Kd.S_reads' HO_13.out).2.2); (case side2 => exact (Kd.S_reads' HO_13.out).2.1); rintro e w' ⟨rfl, ⟨nd, rfl⟩⟩; refine ⟨_, rfl, ?_⟩))
        go_ret
        exact ⟨rt_, hB HB⟩
       rw [if_neg c62] at H
       have c62b0 : decide (t472 < 0) = false := decide_eq_false c62
       clear c62
       by_cases c63 : t472 = t462
       rotate_left
       ·rw [if_neg c63] at H
        have c63b0 : (t472 == t462) = false := beq_eq_false_iff_ne.mpr c63
        have c63b1 : (t472 != t462) = true := bne_iff_ne.mpr c63
        obtain rfl := Option.some.inj H
        go_wp2_with (first | (refine goesL_ (some 105) rfl rfl Try.func24 (by kernel_rfl) rfl #[.slice Ao50 t450m.length co50, .int .i64 1] rfl tm_ ?_; (with_reducible refine (laws_heldIntSS.calls kj48 _ _ t450m 1 t472 _ ?side1 ?side2 A61.out).mono ?_); (case side1 => exact ca (Kd.S_reads' HO_13.out).2.2); (case side2 => exact (Kd.S_reads' HO_13.out).2.1); rintro e w' ⟨rfl, ⟨nd, rfl⟩⟩; refine ⟨_, rfl, ?_⟩))
        go_ret
        exact ⟨rt_, hB HB⟩
       rw [if_pos c63] at H
       have c63b0 : (t472 == t462) = true := beq_iff_eq.mpr c63
       have c63b1 : (t472 != t462) = false := bne_eq_false_iff_eq.mpr c63
       clear c63
       obtain rfl := Option.some.inj H
       go_wp2_with (first | (refine goesL_ (some 105) rfl rfl Try.func24 (by kernel_rfl) rfl #[.slice Ao50 t450m.length co50, .int .i64 1] rfl tm_ ?_; (with_reducible refine (laws_heldIntSS.calls kj48 _ _ t450m 1 t472 _ ?side1 ?side2 A61.out).mono ?_); (case side1 => exact ca (Kd.S_reads' HO_13.out).2.2); (case side2 => exact (Kd.S_reads' HO_13.out).2.1); rintro e w' ⟨rfl, ⟨nd, rfl⟩⟩; refine ⟨_, rfl, ?_⟩))
       go_ret
       exact ⟨rt_, hB HB⟩

-- NOT PRINTED: function 116 (spec_l1Cur_next)

-- NOT PRINTED: function 82 (spec_l1Cur_pick)

-- NOT PRINTED: function 81 (spec_l1Cur_one)

-- NOT PRINTED: function 115 (spec_l1Cur_among)

-- NOT PRINTED: function 80 (spec_l1Cur_edges)

-- NOT PRINTED: function 67 (spec_DrawGoodEdges)

-- NOT PRINTED: function 25 (spec_DrawCutEdges)

-- NOT PRINTED: function 117 (slices_Index_int_int)

-- NOT PRINTED: function 83 (slices_Contains_int_int)

-- NOT PRINTED: function 73 (impl_without)

-- NOT PRINTED: function 113 (impl_groups)

-- NOT PRINTED: function 72 (impl_groupsOf)

-- NOT PRINTED: function 92 (impl_many)

-- NOT PRINTED: function 85 (impl_isCut)

-- NOT PRINTED: function 69 (impl_cutEdges)

-- NOT PRINTED: function 26 (impl_CutEdges)

-- NOT PRINTED: function 114 (spec_l1Least)

-- NOT PRINTED: function 74 (spec_l8Groups)

-- NOT PRINTED: function 79 (spec_l16Many)

-- NOT PRINTED: function 112 (spec_l8Without)

-- NOT PRINTED: function 71 (spec_l16Edges)

-- NOT PRINTED: function 27 (spec_CutEdges)

-- NOT PRINTED: function 28 (impl_FirmGroups)

-- NOT PRINTED: function 87 (spec_l1Has)

-- NOT PRINTED: function 75 (spec_l15Without)

-- NOT PRINTED: function 29 (spec_FirmGroups)

-- NOT PRINTED: function 84 (impl_cost)

-- NOT PRINTED: function 91 (impl_near)

-- NOT PRINTED: function 76 (impl_walk_visit)

-- NOT PRINTED: function 30 (impl_LowsOf)

-- NOT PRINTED: function 77 (spec_l16W_walk)

-- NOT PRINTED: function 31 (spec_LowsOf)

-- NOT PRINTED: function 32 (laws_sameInts)

-- NOT PRINTED: function 33 (laws_has)

-- NOT PRINTED: function 78 (impl_isOneGroup)

-- NOT PRINTED: function 34 (impl_IsFirm)

-- NOT PRINTED: function 35 (impl_IsOneGroup)

-- NOT PRINTED: function 36 (spec_DrawIsFirm)

-- NOT PRINTED: function 37 (spec_IsFirm)

-- NOT PRINTED: function 6 (laws_FnFirm)

-- NOT PRINTED: function 38 (spec_DrawFixFor)

-- NOT PRINTED: function 86 (impl_Edge)

-- NOT PRINTED: function 39 (impl_FixFor)

-- NOT PRINTED: function 88 (spec_l9Edge)

-- NOT PRINTED: function 89 (spec_l16Add)

-- NOT PRINTED: function 40 (spec_FixFor)

-- NOT PRINTED: function 41 (impl_NearOf)

-- NOT PRINTED: function 42 (spec_DrawCutSpots)

-- NOT PRINTED: function 93 (impl_withoutSpot)

-- NOT PRINTED: function 43 (impl_CutSpots)

-- NOT PRINTED: function 94 (spec_l16Spot)

-- NOT PRINTED: function 44 (spec_CutSpots)

-- NOT PRINTED: function 45 (impl_GroupsOf)

-- NOT PRINTED: function 46 (impl_WithoutSpot)

-- NOT PRINTED: function 95 (spec_DrawNearOf)

-- NOT PRINTED: function 47 (spec_DrawWithoutSpot)

-- NOT PRINTED: function 48 (spec_WithoutSpot)

-- NOT PRINTED: function 49 (laws_sameEdges)

-- NOT PRINTED: function 7 (laws_FnFixed)

-- NOT PRINTED: function 118 (spec_l1Cur_cut)

-- NOT PRINTED: function 97 (spec_DrawWithoutAll)

-- NOT PRINTED: function 50 (spec_DrawSideOf)

-- NOT PRINTED: function 119 (impl_rising)

-- NOT PRINTED: function 98 (impl_goodCut)

-- NOT PRINTED: function 51 (impl_SideOf)

-- NOT PRINTED: function 100 (spec_l1Rising)

-- NOT PRINTED: function 52 (spec_SideOf)

-- NOT PRINTED: function 53 (impl_WithoutAll)

-- NOT PRINTED: function 54 (spec_WithoutAll)

-- NOT PRINTED: function 101 (spec_DrawFirstHops)

-- NOT PRINTED: function 55 (spec_DrawCutBetween)

-- NOT PRINTED: function 56 (spec_DrawBackupFor)

-- NOT PRINTED: function 8 (laws_FnCut)

end Go.Proofs.Ythambdfgkfkcmaa.P
