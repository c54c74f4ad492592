import Derived.Test.YtpohlcjkabojcaaF0
import Derived.Test.YtpohlcjkabojcaaF2
import Derived.Test.YtpohlcjkabojcaaF11
import Derived.Test.YtpohlcjkabojcaaF16
namespace Go.Proofs.Ytpohlcjkabojcaa.P
open Go.RowKit Go.Proofs.YtpohlcjkabojcaaW.PrintWords Go.Proofs.YtpohlcjkabojcaaW.PrintLast Go.Proofs.YtpohlcjkabojcaaW.PrintMore
attribute [local go_sem] max2_int min2_int max_two min_two max_three min_three max_four min_four   -- for this text's walks alone
set_option linter.unusedVariables false
set_option linter.unusedSimpArgs false

def spec_l9Edge.l0 : Nat → Int → Int → List (S86) → Int → Int → Option (Int)
 | 0, _, _, _, _, _ => none
 | k + 1, x1, x2, x9, x10, x11 => if x11 < x10 then (if 0 ≤ x11 then (if x11 < (x9.length : Int) then (if ((rd_T86 x9 x11).f0) = x1 then (if ((rd_T86 x9 x11).f1) = x2 then (some ((rd_T86 x9 x11).f2)) else (if ((rd_T86 x9 x11).f0) = x2 then (if ((rd_T86 x9 x11).f1) = x1 then (some ((rd_T86 x9 x11).f2)) else (spec_l9Edge.l0 k x1 x2 x9 x10 (wrap64 (x11 + 1)))) else (spec_l9Edge.l0 k x1 x2 x9 x10 (wrap64 (x11 + 1))))) else (if ((rd_T86 x9 x11).f0) = x2 then (if ((rd_T86 x9 x11).f1) = x1 then (some ((rd_T86 x9 x11).f2)) else (spec_l9Edge.l0 k x1 x2 x9 x10 (wrap64 (x11 + 1)))) else (spec_l9Edge.l0 k x1 x2 x9 x10 (wrap64 (x11 + 1))))) else (none)) else (none)) else (some 0)
def spec_l9Edge.f (k : Nat) (l0 : List (S86)) (a1 : Int) (a2 : Int) : Option (Int) := spec_l9Edge.l0 k a1 a2 l0 (l0.length : Int) 0
theorem spec_l9Edge.mono_l : ∀ k, (∀ y0 y1 y2 y3 y4, LeO (spec_l9Edge.l0 k y0 y1 y2 y3 y4) (spec_l9Edge.l0 (k + 1) y0 y1 y2 y3 y4))
 | 0 => fun _ _ _ _ _ r h => by simp [spec_l9Edge.l0] at h
 | k + 1 => by
  have ih0 := spec_l9Edge.mono_l k
  ·intro y0 y1 y2 y3 y4
   unfold spec_l9Edge.l0
   repeat' first
   | (with_reducible exact ih0 _ _ _ _ _)
   | with_reducible first | exact LeO.refl _ | exact LeO.none _ | refine LeO.ite ?_ ?_ | refine LeO.bind ?_ fun _ => ?_
theorem spec_l9Edge.mono : ∀ a0 a1 a2 k, LeO (spec_l9Edge.f k a0 a1 a2) (spec_l9Edge.f (k + 1) a0 a1 a2) := by
 intro a0 a1 a2 k
 have ih0 := spec_l9Edge.mono_l k
 unfold spec_l9Edge.f
 repeat' first
   | (with_reducible exact ih0 _ _ _ _ _)
   | with_reducible first | exact LeO.refl _ | exact LeO.none _ | refine LeO.ite ?_ ?_ | refine LeO.bind ?_ fun _ => ?_
set_option maxHeartbeats 8000000 in
set_option maxRecDepth 100000 in
theorem spec_l9Edge.calls (k : Nat) (A0 : Option Addr) (c0 : Nat) (l0 : List (S86)) (a1 : Int) (a2 : Int) (r : Int) (w : World) (hr0 : Kd.C k86 w A0 l0.length l0) (hc0 : l0.length ≤ c0) (h : spec_l9Edge.f k l0 a1 a2 = some r) :
  Calls Try.prog 131 #[.slice A0 l0.length c0, .int .i64 a1, .int .i64 a2] w fun e w' => e = .returned (.int .i64 r) ∧ Below w.heap.size w w' := by
 have hu86 := Try.underlying86
 have HR0 := Aside0.mk hr0
 have HC0 := Aside0.mk hc0
 clear hr0 hc0
 have HB := Aside0.mk (Below.refl w.heap.size w)
 have H : (spec_l9Edge.l0 k a1 a2 l0 (l0.length : Int) 0) = some r := h
 clear h
 have H' := Aside0.mk H
 clear H
 go_enter Try.func131, Try.ntmps131
 go_wp2
 go_loopg [11] k (fun kq v11 w' => ∃ (x11_1 : Int), v11 = .int .i64 x11_1 ∧ Aside0 (spec_l9Edge.l0 kq a1 a2 l0 (l0.length : Int) x11_1 = some r) ∧ Aside0 (kq ≤ k) ∧ Aside0 (Below w.heap.size w w'))
 case atStart => exact ⟨(0), (by first | rfl | (simp; done) | (simp [*]; done)), H', ⟨Nat.le_refl _⟩, ⟨hB HB⟩⟩
 case round =>
  clear H'
  obtain ⟨x11_1, rfl, HA, HK1, HB⟩ := hrel
  cases gk with
  | zero => exact absurd HA.out (by simp [spec_l9Edge.l0])
  | succ k1 =>
   have H := HA.out
   clear HA
   simp only [spec_l9Edge.l0] at H
   by_cases c4 : x11_1 < (l0.length : Int)
   rotate_left
   ·rw [if_neg c4] at H
    have c4b0 : decide (x11_1 < (l0.length : Int)) = false := decide_eq_false c4
    clear c4
    obtain rfl := Option.some.inj H
    go_wp2
    go_ret
    exact ⟨rt_, hB HB⟩
   rw [if_pos c4] at H
   have c4b0 : decide (x11_1 < (l0.length : Int)) = true := decide_eq_true c4
   clear c4
   by_cases c5 : 0 ≤ x11_1
   rotate_left
   ·rw [if_neg c5] at H
    exact absurd H (by simp)
   rw [if_pos c5] at H
   have c5b0 : decide (0 ≤ x11_1) = true := decide_eq_true c5
   clear c5
   by_cases c6 : x11_1 < (l0.length : Int)
   rotate_left
   ·rw [if_neg c6] at H
    exact absurd H (by simp)
   rw [if_pos c6] at H
   have c6b0 : decide (x11_1 < (l0.length : Int)) = true := decide_eq_true c6
   clear c6
   by_cases c7 : ((rd_T86 l0 x11_1).f0) = a1
   rotate_left
   ·rw [if_neg c7] at H
    have c7b0 : (((rd_T86 l0 x11_1).f0) == a1) = false := beq_eq_false_iff_ne.mpr c7
    have c7b1 : (((rd_T86 l0 x11_1).f0) != a1) = true := bne_iff_ne.mpr c7
    by_cases c19 : ((rd_T86 l0 x11_1).f0) = a2
    rotate_left
    ·rw [if_neg c19] at H
     have c19b0 : (((rd_T86 l0 x11_1).f0) == a2) = false := beq_eq_false_iff_ne.mpr c19
     have c19b1 : (((rd_T86 l0 x11_1).f0) != a2) = true := bne_iff_ne.mpr c19
     have H' := Aside0.mk H
     clear H
     have p578 : 0 ≤ (x11_1 : Int) := od_
     have q578 : x11_1 < (l0.length : Int) := od_
     obtain ⟨ad578, e578, hx578_0, hx578_1, hx578_2⟩ := at_T86 HR0.out x11_1 p578 q578
     cases e578
     replace hx578_0 := hc_ HB hx578_0
     replace hx578_1 := hc_ HB hx578_1
     replace hx578_2 := hc_ HB hx578_2
     replace p578 := eq_true p578
     replace q578 := eq_true q578
     go_wp2_with (first | ((with_reducible refine gate_dst (N := 8) rfl ?_); refine box_event ?hg (N := 8) ?hd (cs := #[.int .i64 0, .int .i64 0, .int .i64 0]) (t := 86) ?hr ?_; (case hd => rfl); (case hg => rfl); (case hr => first | (go_simp; done) | (go_simp; rfl)); intro gb579 hg w25 hbox hb; have BK579 := Aside0.mk (hbox); have GW579 := gw_ hg HB; have GE579 := gw_ hg HB; replace HB := bst_ HB hb; clear hb hbox hg; obtain ⟨hcz26_0, hcz26_1, hcz26_2⟩ := bcs3_ BK579; have hfz26_0 := blk_frozen BK579.out 0; have hfz26_1 := blk_frozen BK579.out 1; have hfz26_2 := blk_frozen BK579.out 2))
     go_roundg k1
     case measure => have := HK1.out; omega
     case rel => exact ⟨(wrap64 (x11_1 + 1)), (by first | rfl | (simp; done) | (simp [*]; done)), H', ⟨by have := HK1.out; omega⟩, ⟨hB HB⟩⟩
    rw [if_pos c19] at H
    have c19b0 : (((rd_T86 l0 x11_1).f0) == a2) = true := beq_iff_eq.mpr c19
    have c19b1 : (((rd_T86 l0 x11_1).f0) != a2) = false := bne_eq_false_iff_eq.mpr c19
    clear c19
    by_cases c20 : ((rd_T86 l0 x11_1).f1) = a1
    rotate_left
    ·rw [if_neg c20] at H
     have c20b0 : (((rd_T86 l0 x11_1).f1) == a1) = false := beq_eq_false_iff_ne.mpr c20
     have c20b1 : (((rd_T86 l0 x11_1).f1) != a1) = true := bne_iff_ne.mpr c20
     have H' := Aside0.mk H
     clear H
     have p578 : 0 ≤ (x11_1 : Int) := od_
     have q578 : x11_1 < (l0.length : Int) := od_
     obtain ⟨ad578, e578, hx578_0, hx578_1, hx578_2⟩ := at_T86 HR0.out x11_1 p578 q578
     cases e578
     replace hx578_0 := hc_ HB hx578_0
     replace hx578_1 := hc_ HB hx578_1
     replace hx578_2 := hc_ HB hx578_2
     replace p578 := eq_true p578
     replace q578 := eq_true q578
     go_wp2_with (first | ((with_reducible refine gate_dst (N := 8) rfl ?_); refine box_event ?hg (N := 8) ?hd (cs := #[.int .i64 0, .int .i64 0, .int .i64 0]) (t := 86) ?hr ?_; (case hd => rfl); (case hg => rfl); (case hr => first | (go_simp; done) | (go_simp; rfl)); intro gb579 hg w23 hbox hb; have BK579 := Aside0.mk (hbox); have GW579 := gw_ hg HB; have GE579 := gw_ hg HB; replace HB := bst_ HB hb; clear hb hbox hg; obtain ⟨hcz24_0, hcz24_1, hcz24_2⟩ := bcs3_ BK579; have hfz24_0 := blk_frozen BK579.out 0; have hfz24_1 := blk_frozen BK579.out 1; have hfz24_2 := blk_frozen BK579.out 2))
     go_roundg k1
     case measure => have := HK1.out; omega
     case rel => exact ⟨(wrap64 (x11_1 + 1)), (by first | rfl | (simp; done) | (simp [*]; done)), H', ⟨by have := HK1.out; omega⟩, ⟨hB HB⟩⟩
    rw [if_pos c20] at H
    have c20b0 : (((rd_T86 l0 x11_1).f1) == a1) = true := beq_iff_eq.mpr c20
    have c20b1 : (((rd_T86 l0 x11_1).f1) != a1) = false := bne_eq_false_iff_eq.mpr c20
    clear c20
    obtain rfl := Option.some.inj H
    have p578 : 0 ≤ (x11_1 : Int) := od_
    have q578 : x11_1 < (l0.length : Int) := od_
    obtain ⟨ad578, e578, hx578_0, hx578_1, hx578_2⟩ := at_T86 HR0.out x11_1 p578 q578
    cases e578
    replace hx578_0 := hc_ HB hx578_0
    replace hx578_1 := hc_ HB hx578_1
    replace hx578_2 := hc_ HB hx578_2
    replace p578 := eq_true p578
    replace q578 := eq_true q578
    go_wp2_with (first | ((with_reducible refine gate_dst (N := 8) rfl ?_); refine box_event ?hg (N := 8) ?hd (cs := #[.int .i64 0, .int .i64 0, .int .i64 0]) (t := 86) ?hr ?_; (case hd => rfl); (case hg => rfl); (case hr => first | (go_simp; done) | (go_simp; rfl)); intro gb579 hg w21 hbox hb; have BK579 := Aside0.mk (hbox); have GW579 := gw_ hg HB; have GE579 := gw_ hg HB; replace HB := bst_ HB hb; clear hb hbox hg; obtain ⟨hcz22_0, hcz22_1, hcz22_2⟩ := bcs3_ BK579; have hfz22_0 := blk_frozen BK579.out 0; have hfz22_1 := blk_frozen BK579.out 1; have hfz22_2 := blk_frozen BK579.out 2))
    go_ret
    exact ⟨rt_, hB HB⟩
   rw [if_pos c7] at H
   have c7b0 : (((rd_T86 l0 x11_1).f0) == a1) = true := beq_iff_eq.mpr c7
   have c7b1 : (((rd_T86 l0 x11_1).f0) != a1) = false := bne_eq_false_iff_eq.mpr c7
   clear c7
   by_cases c8 : ((rd_T86 l0 x11_1).f1) = a2
   ·rw [if_pos c8] at H
    have c8b0 : (((rd_T86 l0 x11_1).f1) == a2) = true := beq_iff_eq.mpr c8
    have c8b1 : (((rd_T86 l0 x11_1).f1) != a2) = false := bne_eq_false_iff_eq.mpr c8
    clear c8
    obtain rfl := Option.some.inj H
    have p578 : 0 ≤ (x11_1 : Int) := od_
    have q578 : x11_1 < (l0.length : Int) := od_
    obtain ⟨ad578, e578, hx578_0, hx578_1, hx578_2⟩ := at_T86 HR0.out x11_1 p578 q578
    cases e578
    replace hx578_0 := hc_ HB hx578_0
    replace hx578_1 := hc_ HB hx578_1
    replace hx578_2 := hc_ HB hx578_2
    replace p578 := eq_true p578
    replace q578 := eq_true q578
    go_wp2_with (first | ((with_reducible refine gate_dst (N := 8) rfl ?_); refine box_event ?hg (N := 8) ?hd (cs := #[.int .i64 0, .int .i64 0, .int .i64 0]) (t := 86) ?hr ?_; (case hd => rfl); (case hg => rfl); (case hr => first | (go_simp; done) | (go_simp; rfl)); intro gb579 hg w9 hbox hb; have BK579 := Aside0.mk (hbox); have GW579 := gw_ hg HB; have GE579 := gw_ hg HB; replace HB := bst_ HB hb; clear hb hbox hg; obtain ⟨hcz10_0, hcz10_1, hcz10_2⟩ := bcs3_ BK579; have hfz10_0 := blk_frozen BK579.out 0; have hfz10_1 := blk_frozen BK579.out 1; have hfz10_2 := blk_frozen BK579.out 2))
    go_ret
    exact ⟨rt_, hB HB⟩
   rw [if_neg c8] at H
   have c8b0 : (((rd_T86 l0 x11_1).f1) == a2) = false := beq_eq_false_iff_ne.mpr c8
   have c8b1 : (((rd_T86 l0 x11_1).f1) != a2) = true := bne_iff_ne.mpr c8
   by_cases c11 : ((rd_T86 l0 x11_1).f0) = a2
   rotate_left
   ·rw [if_neg c11] at H
    have c11b0 : (((rd_T86 l0 x11_1).f0) == a2) = false := beq_eq_false_iff_ne.mpr c11
    have c11b1 : (((rd_T86 l0 x11_1).f0) != a2) = true := bne_iff_ne.mpr c11
    have H' := Aside0.mk H
    clear H
    have p578 : 0 ≤ (x11_1 : Int) := od_
    have q578 : x11_1 < (l0.length : Int) := od_
    obtain ⟨ad578, e578, hx578_0, hx578_1, hx578_2⟩ := at_T86 HR0.out x11_1 p578 q578
    cases e578
    replace hx578_0 := hc_ HB hx578_0
    replace hx578_1 := hc_ HB hx578_1
    replace hx578_2 := hc_ HB hx578_2
    replace p578 := eq_true p578
    replace q578 := eq_true q578
    go_wp2_with (first | ((with_reducible refine gate_dst (N := 8) rfl ?_); refine box_event ?hg (N := 8) ?hd (cs := #[.int .i64 0, .int .i64 0, .int .i64 0]) (t := 86) ?hr ?_; (case hd => rfl); (case hg => rfl); (case hr => first | (go_simp; done) | (go_simp; rfl)); intro gb579 hg w17 hbox hb; have BK579 := Aside0.mk (hbox); have GW579 := gw_ hg HB; have GE579 := gw_ hg HB; replace HB := bst_ HB hb; clear hb hbox hg; obtain ⟨hcz18_0, hcz18_1, hcz18_2⟩ := bcs3_ BK579; have hfz18_0 := blk_frozen BK579.out 0; have hfz18_1 := blk_frozen BK579.out 1; have hfz18_2 := blk_frozen BK579.out 2))
    go_roundg k1
    case measure => have := HK1.out; omega
    case rel => exact ⟨(wrap64 (x11_1 + 1)), (by first | rfl | (simp; done) | (simp [*]; done)), H', ⟨by have := HK1.out; omega⟩, ⟨hB HB⟩⟩
   rw [if_pos c11] at H
   have c11b0 : (((rd_T86 l0 x11_1).f0) == a2) = true := beq_iff_eq.mpr c11
   have c11b1 : (((rd_T86 l0 x11_1).f0) != a2) = false := bne_eq_false_iff_eq.mpr c11
   clear c11
   by_cases c12 : ((rd_T86 l0 x11_1).f1) = a1
   rotate_left
   ·rw [if_neg c12] at H
    have c12b0 : (((rd_T86 l0 x11_1).f1) == a1) = false := beq_eq_false_iff_ne.mpr c12
    have c12b1 : (((rd_T86 l0 x11_1).f1) != a1) = true := bne_iff_ne.mpr c12
    have H' := Aside0.mk H
    clear H
    have p578 : 0 ≤ (x11_1 : Int) := od_
    have q578 : x11_1 < (l0.length : Int) := od_
    obtain ⟨ad578, e578, hx578_0, hx578_1, hx578_2⟩ := at_T86 HR0.out x11_1 p578 q578
    cases e578
    replace hx578_0 := hc_ HB hx578_0
    replace hx578_1 := hc_ HB hx578_1
    replace hx578_2 := hc_ HB hx578_2
    replace p578 := eq_true p578
    replace q578 := eq_true q578
    go_wp2_with (first | ((with_reducible refine gate_dst (N := 8) rfl ?_); refine box_event ?hg (N := 8) ?hd (cs := #[.int .i64 0, .int .i64 0, .int .i64 0]) (t := 86) ?hr ?_; (case hd => rfl); (case hg => rfl); (case hr => first | (go_simp; done) | (go_simp; rfl)); intro gb579 hg w15 hbox hb; have BK579 := Aside0.mk (hbox); have GW579 := gw_ hg HB; have GE579 := gw_ hg HB; replace HB := bst_ HB hb; clear hb hbox hg; obtain ⟨hcz16_0, hcz16_1, hcz16_2⟩ := bcs3_ BK579; have hfz16_0 := blk_frozen BK579.out 0; have hfz16_1 := blk_frozen BK579.out 1; have hfz16_2 := blk_frozen BK579.out 2))
    go_roundg k1
    case measure => have := HK1.out; omega
    case rel => exact ⟨(wrap64 (x11_1 + 1)), (by first | rfl | (simp; done) | (simp [*]; done)), H', ⟨by have := HK1.out; omega⟩, ⟨hB HB⟩⟩
   rw [if_pos c12] at H
   have c12b0 : (((rd_T86 l0 x11_1).f1) == a1) = true := beq_iff_eq.mpr c12
   have c12b1 : (((rd_T86 l0 x11_1).f1) != a1) = false := bne_eq_false_iff_eq.mpr c12
   clear c12
   obtain rfl := Option.some.inj H
   have p578 : 0 ≤ (x11_1 : Int) := od_
   have q578 : x11_1 < (l0.length : Int) := od_
   obtain ⟨ad578, e578, hx578_0, hx578_1, hx578_2⟩ := at_T86 HR0.out x11_1 p578 q578
   cases e578
   replace hx578_0 := hc_ HB hx578_0
   replace hx578_1 := hc_ HB hx578_1
   replace hx578_2 := hc_ HB hx578_2
   replace p578 := eq_true p578
   replace q578 := eq_true q578
   go_wp2_with (first | ((with_reducible refine gate_dst (N := 8) rfl ?_); refine box_event ?hg (N := 8) ?hd (cs := #[.int .i64 0, .int .i64 0, .int .i64 0]) (t := 86) ?hr ?_; (case hd => rfl); (case hg => rfl); (case hr => first | (go_simp; done) | (go_simp; rfl)); intro gb579 hg w13 hbox hb; have BK579 := Aside0.mk (hbox); have GW579 := gw_ hg HB; have GE579 := gw_ hg HB; replace HB := bst_ HB hb; clear hb hbox hg; obtain ⟨hcz14_0, hcz14_1, hcz14_2⟩ := bcs3_ BK579; have hfz14_0 := blk_frozen BK579.out 0; have hfz14_1 := blk_frozen BK579.out 1; have hfz14_2 := blk_frozen BK579.out 2))
   go_ret
   exact ⟨rt_, hB HB⟩

def spec_l9Hops.l0 : Nat → List (S86) → Int → List Int → List Int → List Int → Int → Int → Option (List Int)
 | 0, _, _, _, _, _, _, _ => none
 | k + 1, x1, x2, x9, x10, x19, x20, x21 => if x21 < x20 then (if 0 ≤ x21 then (if x21 < (x19.length : Int) then (if 0 ≤ x2 then (if x2 < (x9.length : Int) then (if (rd x9 x2) < 100000 then (if 0 ≤ (rd x19 x21) then (if (rd x19 x21) < (x9.length : Int) then ((spec_l9Edge.f k x1 x2 (rd x19 x21)).bind fun t589 => (if (wrap64 ((rd x9 (rd x19 x21)) + t589)) = (rd x9 x2) then (if x10.length < 17592186044416 then (spec_l9Hops.l0 k x1 x2 x9 (x10 ++ [rd x19 x21]) x19 x20 (wrap64 (x21 + 1))) else (none)) else (spec_l9Hops.l0 k x1 x2 x9 x10 x19 x20 (wrap64 (x21 + 1))))) else (none)) else (none)) else (spec_l9Hops.l0 k x1 x2 x9 x10 x19 x20 (wrap64 (x21 + 1)))) else (none)) else (none)) else (none)) else (none)) else (some x10)
def spec_l9Hops.f (k : Nat) (a0 : Int) (l1 : List (S86)) (a2 : Int) (a3 : Int) : Option (List Int) := (spec_l9Fars.f k a0 l1 a3).bind fun t580 => ((spec_l8Near.f k l1 a2).bind fun t583 => (spec_l9Hops.l0 k l1 a2 t580 ([] : List Int) t583 (t583.length : Int) 0))
theorem spec_l9Hops.mono_l : ∀ k, (∀ y0 y1 y2 y3 y4 y5 y6, LeO (spec_l9Hops.l0 k y0 y1 y2 y3 y4 y5 y6) (spec_l9Hops.l0 (k + 1) y0 y1 y2 y3 y4 y5 y6))
 | 0 => fun _ _ _ _ _ _ _ r h => by simp [spec_l9Hops.l0] at h
 | k + 1 => by
  have ih0 := spec_l9Hops.mono_l k
  ·intro y0 y1 y2 y3 y4 y5 y6
   unfold spec_l9Hops.l0
   repeat' first
   | (with_reducible exact ih0 _ _ _ _ _ _ _)
   | (with_reducible exact spec_l8Near.mono _ _ _)
   | (with_reducible exact spec_l9Edge.mono _ _ _ _)
   | (with_reducible exact spec_l9Fars.mono _ _ _ _)
   | with_reducible first | exact LeO.refl _ | exact LeO.none _ | refine LeO.ite ?_ ?_ | refine LeO.bind ?_ fun _ => ?_
theorem spec_l9Hops.mono : ∀ a0 a1 a2 a3 k, LeO (spec_l9Hops.f k a0 a1 a2 a3) (spec_l9Hops.f (k + 1) a0 a1 a2 a3) := by
 intro a0 a1 a2 a3 k
 have ih0 := spec_l9Hops.mono_l k
 unfold spec_l9Hops.f
 repeat' first
   | (with_reducible exact ih0 _ _ _ _ _ _ _)
   | (with_reducible exact spec_l8Near.mono _ _ _)
   | (with_reducible exact spec_l9Edge.mono _ _ _ _)
   | (with_reducible exact spec_l9Fars.mono _ _ _ _)
   | with_reducible first | exact LeO.refl _ | exact LeO.none _ | refine LeO.ite ?_ ?_ | refine LeO.bind ?_ fun _ => ?_
def spec_l9Hops.T6 : Bool × List (List Nat × List Nat) := (true, [([], []), ([], []), ([0, 1], [0, 1]), ([2], [2]), ([3], [3]), ([4], [4]), ([5], [5]), ([5], [5]), ([6, 7, 5], [5, 6, 7]), ([8, 5], [5, 8]), ([5], [5]), ([5], [5]), ([5], [5]), ([10, 11, 12, 5, 5], [5, 10, 11, 12]), ([9, 13, 5], [5, 9, 13]), ([5], [5]), ([5], [5]), ([15, 16, 5], [5, 15, 16]), ([17, 5], [5, 17]), ([14, 18, 5], [5, 14, 18]), ([5, 19], [5, 19])])
def spec_l9Hops.B6 : List Nat := [0, 0, 3, 7, 15, 31, 63, 63, 255, 511, 63, 63, 63, 7231, 16383, 63, 63, 98367, 229439, 524287, 1048575]
theorem spec_l9Hops.tab6 : rtab .any (opsOf Try.f104 6) = spec_l9Hops.T6 := by kernel_rfl
theorem spec_l9Hops.bits6 : waitsOk spec_l9Hops.T6.2 spec_l9Hops.B6 = true := by kernel_rfl
set_option maxHeartbeats 8000000 in
set_option maxRecDepth 100000 in
theorem spec_l9Hops.calls (k : Nat) (a0 : Int) (A1 : Option Addr) (c1 : Nat) (l1 : List (S86)) (a2 : Int) (a3 : Int) (r : List Int) (w : World) (hr1 : Kd.C k86 w A1 l1.length l1) (hc1 : l1.length ≤ c1) (h : spec_l9Hops.f k a0 l1 a2 a3 = some r) :
  Calls Try.prog 104 #[.int .i64 a0, .slice A1 l1.length c1, .int .i64 a2, .int .i64 a3] w fun e w' => ∃ v0_ : Value, e = .returned (v0_) ∧ Kd.R (Kd.int .i64) 3 w' w.heap.size (fun _ => True) v0_ r ∧ Below w.heap.size w w' := by
 have HR1 := Aside0.mk hr1
 have HC1 := Aside0.mk hc1
 clear hr1 hc1
 have HB := Aside0.mk (Below.refl w.heap.size w)
 have H : ((spec_l9Fars.f k a0 l1 a3).bind fun t580 => ((spec_l8Near.f k l1 a2).bind fun t583 => (spec_l9Hops.l0 k l1 a2 t580 ([] : List Int) t583 (t583.length : Int) 0))) = some r := h
 clear h
 replace H := Option.bind_eq_some_iff.mp H
 obtain ⟨t580, A50, H⟩ := H
 replace H : ((spec_l8Near.f k l1 a2).bind fun t583 => (spec_l9Hops.l0 k l1 a2 t580 ([] : List Int) t583 (t583.length : Int) 0)) = some r := H
 have A5 := Aside0.mk A50
 clear A50
 replace H := Option.bind_eq_some_iff.mp H
 obtain ⟨t583, A60, H⟩ := H
 replace H : (spec_l9Hops.l0 k l1 a2 t580 ([] : List Int) t583 (t583.length : Int) 0) = some r := H
 have A6 := Aside0.mk A60
 clear A60
 have H' := Aside0.mk H
 clear H
 go_enter Try.func104, Try.ntmps104
 go_wp2_with (first | (refine goesL_ (some 16) rfl rfl Try.func105 (by kernel_rfl) rfl #[.int .i64 a0, .slice A1 l1.length c1, .int .i64 a3] rfl tm_ ?_; (with_reducible refine (spec_l9Fars.calls k a0 _ _ l1 a3 t580 _ ?side1 ?side2 A5.out).mono ?_); (case side1 => exact ca HR1.out); (case side2 => exact HC1.out); rintro e w7 ⟨v581, rfl, ho0, hb⟩; refine ⟨_, rfl, ?_⟩; have HO582 := Aside0.mk (Kd.R_lower ho0 (below_size (hB HB))); replace HB := bst_ HB hb; clear hb ho0) | (refine goesL_ (some 19) rfl rfl Try.func110 (by kernel_rfl) rfl #[.slice A1 l1.length c1, .int .i64 a2] rfl tm_ ?_; (with_reducible refine (spec_l8Near.calls k _ _ l1 a2 t583 _ ?side1 ?side2 A6.out).mono ?_); (case side1 => exact cb_ HR1 HB); (case side2 => exact HC1.out); rintro e w8 ⟨v584, rfl, ho0, hb⟩; refine ⟨_, rfl, ?_⟩; have HO585 := Aside0.mk (Kd.R_lower (Kd.R_new' ho0 (rl_ HO582)) (below_size (hB HB))); replace HO582 := re_ HO582 ho0 hb; replace HB := bst_ HB hb; clear hb ho0; obtain ⟨Ao9, co9, eo9⟩ := Kd.R_slice HO585.out; subst eo9))
 go_loopg [10, 21] k (fun kq v10 v21 w' => ∃ (x10_1 : List Int) (x21_1 : Int), v21 = .int .i64 x21_1 ∧ Aside0 (spec_l9Hops.l0 kq l1 a2 t580 x10_1 t583 (t583.length : Int) x21_1 = some r) ∧ Aside0 (kq ≤ k) ∧ Aside0 (Kd.R (Kd.int .i64) 3 w' w.heap.size (fun k_ => no_ v10 k_ ∧ no_ (.slice Ao9 t583.length co9) k_) v581 t580) ∧ Aside0 (Kd.R (Kd.int .i64) 3 w' w.heap.size (fun k_ => no_ v581 k_ ∧ no_ (.slice Ao9 t583.length co9) k_) v10 x10_1) ∧ Aside0 (Kd.R (Kd.int .i64) 3 w' w.heap.size (fun k_ => no_ v581 k_ ∧ no_ v10 k_) (.slice Ao9 t583.length co9) t583) ∧ Aside0 (Below w.heap.size w w'))
 case atStart => exact ⟨(([] : List Int)), (0), (by first | rfl | (simp; done) | (simp [*]; done)), H', ⟨Nat.le_refl _⟩, ⟨by (with_reducible repeat (first | apply Kd.R_alloc | apply Kd.R_drewN | apply Kd.R_drew)); exact Kd.R_mono HO582.out (fun _ hk => ⟨(by simp [Value.ownBlock]), hk.2⟩)⟩, ⟨by first | exact Kd.R_nil _ _ _ _ _ | exact Kd.N_nil _ _ _ _ _ | exact Kd.V_nil _ _ _ _ _ | exact Kd.Q_nil _ _ _ _ _ | exact Kd.S_nil _ _ _ _ _⟩, ⟨by (with_reducible repeat (first | apply Kd.R_alloc | apply Kd.R_drewN | apply Kd.R_drew)); exact Kd.R_mono HO585.out (fun _ hk => ⟨hk.2, (by simp [Value.ownBlock])⟩)⟩, ⟨hB HB⟩⟩
 case round =>
  clear H'
  try clear c1
  obtain ⟨x10_1, x21_1, rfl, HA, HK1, HO_9, HO_10, HO_19, HB⟩ := hrel
  cases gk with
  | zero => exact absurd HA.out (by simp [spec_l9Hops.l0])
  | succ k1 =>
   have H := HA.out
   clear HA
   simp only [spec_l9Hops.l0] at H
   by_cases c10 : x21_1 < (t583.length : Int)
   rotate_left
   ·rw [if_neg c10] at H
    have c10b0 : decide (x21_1 < (t583.length : Int)) = false := decide_eq_false c10
    clear c10
    obtain rfl := Option.some.inj H
    go_wp2
    go_ret
    exact ⟨_, rt_, by (with_reducible repeat (first | apply Kd.R_alloc | apply Kd.R_drewN | apply Kd.R_drew)); exact Kd.R_mono HO_10.out (fun _ hk => trivial), hB HB⟩
   rw [if_pos c10] at H
   have c10b0 : decide (x21_1 < (t583.length : Int)) = true := decide_eq_true c10
   clear c10
   by_cases c11 : 0 ≤ x21_1
   rotate_left
   ·rw [if_neg c11] at H
    exact absurd H (by simp)
   rw [if_pos c11] at H
   have c11b0 : decide (0 ≤ x21_1) = true := decide_eq_true c11
   clear c11
   by_cases c12 : x21_1 < (t583.length : Int)
   rotate_left
   ·rw [if_neg c12] at H
    exact absurd H (by simp)
   rw [if_pos c12] at H
   have c12b0 : decide (x21_1 < (t583.length : Int)) = true := decide_eq_true c12
   clear c12
   by_cases c13 : 0 ≤ a2
   rotate_left
   ·rw [if_neg c13] at H
    exact absurd H (by simp)
   rw [if_pos c13] at H
   have c13b0 : decide (0 ≤ a2) = true := decide_eq_true c13
   clear c13
   by_cases c14 : a2 < (t580.length : Int)
   rotate_left
   ·rw [if_neg c14] at H
    exact absurd H (by simp)
   rw [if_pos c14] at H
   have c14b0 : decide (a2 < (t580.length : Int)) = true := decide_eq_true c14
   clear c14
   by_cases c15 : (rd t580 a2) < 100000
   rotate_left
   ·rw [if_neg c15] at H
    have c15b0 : decide ((rd t580 a2) < 100000) = false := decide_eq_false c15
    clear c15
    have H' := Aside0.mk H
    clear H
    have p586 : 0 ≤ (x21_1 : Int) := od_
    have q586 : x21_1 < (t583.length : Int) := od_
    obtain ⟨ad586, e586, hx586_0⟩ := Kd.at_int (Kd.R_reads' HO_19.out).2.2 x21_1 p586 q586
    cases e586
    replace p586 := eq_true p586
    replace q586 := eq_true q586
    try go_wp2
    replace HO_9 := rd_ HO_9
    replace HO_10 := rd_ HO_10
    replace HO_19 := rd_ HO_19
    replace HB := Aside0.mk (below_drew1 HB.out)
    obtain ⟨Ao29, co29, eo29⟩ := Kd.R_slice HO_9.out
    subst eo29
    have p587 : 0 ≤ (a2 : Int) := od_
    have q587 : a2 < (t580.length : Int) := od_
    obtain ⟨ad587, e587, hx587_0⟩ := Kd.at_int (Kd.R_reads' HO_9.out).2.2 a2 p587 q587
    cases e587
    replace p587 := eq_true p587
    replace q587 := eq_true q587
    refine start_ (n := 21) (S := fun w' => w'.cell? (ad587.add (a2).toNat) = some (.int .i64 (rd t580 a2))) (ds := []) (bs 21 0) (by kernel_rfl) rfl rfl (hx587_0) (fun hHeld => ?_); refine with_tabW spec_l9Hops.tab6 spec_l9Hops.bits6 (fun HT_ HW_ => ?_)
    generalize wr.drew = w28 at HO_9 HO_10 HO_19 HB hx587_0 hHeld ⊢
    refine pu_ 0 25 (bs 21 1) HT_ ?_
    refine pu_ 1 26 (bs 21 3) HT_ ?_
    refine pu_ 2 27 (bs 21 7) HT_ ?_
    refine take_ (i := 3) (N := some 28) (v := ?_) (a' := ?_) (bs 21 15) rfl rfl (take_ofW HT_.out HW_.out (by kernel_rfl)) (fun _ _ _ h => h) (Or.inl ⟨by rfl, ?_⟩) hHeld ?_ ?_
    rotate_left
    ·intro w' s0
     go_simp
     with_reducible rfl
    rotate_left
    ·simp only [Act.put, List.setIfInBounds_toArray, List.set_cons_zero, List.set_cons_succ, i64_w, i32_w]
     rfl
    refine pu_ 4 29 (bs 21 31) HT_ ?_
    refine pu_ 5 30 (bs 21 63) HT_ ?_
    refine pn_ 6 31 (bs 21 127) HT_ ?_
    refine pn_ 7 32 (bs 21 255) HT_ ?_
    refine pn_ 8 33 (bs 21 511) HT_ ?_
    refine pn_ 9 34 (bs 21 1023) HT_ ?_
    refine pn_ 10 35 (bs 21 2047) HT_ ?_
    refine pn_ 11 36 (bs 21 4095) HT_ ?_
    refine pn_ 12 37 (bs 21 8191) HT_ ?_
    refine pn_ 13 38 (bs 21 16383) HT_ ?_
    refine pn_ 14 39 (bs 21 32767) HT_ ?_
    refine pn_ 15 40 (bs 21 65535) HT_ ?_
    refine pn_ 16 41 (bs 21 131071) HT_ ?_
    refine pn_ 17 42 (bs 21 262143) HT_ ?_
    refine pn_ 18 43 (bs 21 524287) HT_ ?_
    refine pn_ 19 44 (bs 21 1048575) HT_ ?_
    refine pu_ 20 45 (bs 21 2097151) HT_ ?_
    refine done_ (done_of HT_.out (by kernel_rfl)) ?_
    try go_wp2
    go_roundg k1
    case measure => have := HK1.out; omega
    case rel => exact ⟨(x10_1), (wrap64 (x21_1 + 1)), (by first | rfl | (simp; done) | (simp [*]; done)), H', ⟨by have := HK1.out; omega⟩, ⟨ra HO_9.out⟩, ⟨ra HO_10.out⟩, ⟨ra HO_19.out⟩, ⟨hB HB⟩⟩
   rw [if_pos c15] at H
   have c15b0 : decide ((rd t580 a2) < 100000) = true := decide_eq_true c15
   clear c15
   by_cases c16 : 0 ≤ (rd t583 x21_1)
   rotate_left
   ·rw [if_neg c16] at H
    exact absurd H (by simp)
   rw [if_pos c16] at H
   have c16b0 : decide (0 ≤ (rd t583 x21_1)) = true := decide_eq_true c16
   clear c16
   by_cases c17 : (rd t583 x21_1) < (t580.length : Int)
   rotate_left
   ·rw [if_neg c17] at H
    exact absurd H (by simp)
   rw [if_pos c17] at H
   have c17b0 : decide ((rd t583 x21_1) < (t580.length : Int)) = true := decide_eq_true c17
   clear c17
   replace H := Option.bind_eq_some_iff.mp H
   obtain ⟨t589, A180, H⟩ := H
   replace H : (if (wrap64 ((rd t580 (rd t583 x21_1)) + t589)) = (rd t580 a2) then (if x10_1.length < 17592186044416 then (spec_l9Hops.l0 k1 l1 a2 t580 (x10_1 ++ [rd t583 x21_1]) t583 (t583.length : Int) (wrap64 (x21_1 + 1))) else (none)) else (spec_l9Hops.l0 k1 l1 a2 t580 x10_1 t583 (t583.length : Int) (wrap64 (x21_1 + 1)))) = some r := H
   have A18 := Aside0.mk A180
   clear A180
   by_cases c19 : (wrap64 ((rd t580 (rd t583 x21_1)) + t589)) = (rd t580 a2)
   rotate_left
   ·rw [if_neg c19] at H
    have c19b0 : ((wrap64 ((rd t580 (rd t583 x21_1)) + t589)) == (rd t580 a2)) = false := beq_eq_false_iff_ne.mpr c19
    have c19b1 : ((wrap64 ((rd t580 (rd t583 x21_1)) + t589)) != (rd t580 a2)) = true := bne_iff_ne.mpr c19
    have H' := Aside0.mk H
    clear H
    have p586 : 0 ≤ (x21_1 : Int) := od_
    have q586 : x21_1 < (t583.length : Int) := od_
    obtain ⟨ad586, e586, hx586_0⟩ := Kd.at_int (Kd.R_reads' HO_19.out).2.2 x21_1 p586 q586
    cases e586
    replace p586 := eq_true p586
    replace q586 := eq_true q586
    try go_wp2
    replace HO_9 := rd_ HO_9
    replace HO_10 := rd_ HO_10
    replace HO_19 := rd_ HO_19
    replace HB := Aside0.mk (below_drew1 HB.out)
    obtain ⟨Ao26, co26, eo26⟩ := Kd.R_slice HO_9.out
    subst eo26
    have p587 : 0 ≤ (a2 : Int) := od_
    have q587 : a2 < (t580.length : Int) := od_
    obtain ⟨ad587, e587, hx587_0⟩ := Kd.at_int (Kd.R_reads' HO_9.out).2.2 a2 p587 q587
    cases e587
    replace p587 := eq_true p587
    replace q587 := eq_true q587
    have p588 : 0 ≤ ((rd t583 x21_1) : Int) := od_
    have q588 : (rd t583 x21_1) < (t580.length : Int) := od_
    obtain ⟨ad588, e588, hx588_0⟩ := Kd.at_int (Kd.R_reads' HO_9.out).2.2 (rd t583 x21_1) p588 q588
    obtain rfl : ad587 = ad588 := (by injection e588)
    replace p588 := eq_true p588
    replace q588 := eq_true q588
    have p590 : 0 ≤ (a2 : Int) := od_
    have q590 : a2 < (t580.length : Int) := od_
    obtain ⟨ad590, e590, hx590_0⟩ := Kd.at_int (Kd.R_reads' HO_9.out).2.2 a2 p590 q590
    obtain rfl : ad587 = ad590 := (by injection e590)
    replace p590 := eq_true p590
    replace q590 := eq_true q590
    refine start_ (n := 21) (S := fun w' => w'.cell? (ad587.add (a2).toNat) = some (.int .i64 (rd t580 a2)) ∧ w'.cell? (ad587.add ((rd t583 x21_1)).toNat) = some (.int .i64 (rd t580 (rd t583 x21_1))) ∧ w'.cell? (ad587.add (a2).toNat) = some (.int .i64 (rd t580 a2))) (ds := []) (bs 21 0) (by kernel_rfl) rfl rfl ⟨hx587_0, hx588_0, hx590_0⟩ (fun hHeld => ?_); refine with_tabW spec_l9Hops.tab6 spec_l9Hops.bits6 (fun HT_ HW_ => ?_)
    generalize wr.drew = w25 at HO_9 HO_10 HO_19 HB hx587_0 hx588_0 hx590_0 hHeld ⊢
    refine pu_ 0 25 (bs 21 1) HT_ ?_
    refine pu_ 1 26 (bs 21 3) HT_ ?_
    refine pu_ 2 27 (bs 21 7) HT_ ?_
    refine tk_ 3 28 (bs 21 15) HT_ HW_ hHeld ?_
    refine pu_ 4 29 (bs 21 31) HT_ ?_
    refine pu_ 5 30 (bs 21 63) HT_ ?_
    refine pu_ 6 31 (bs 21 127) HT_ ?_
    refine pu_ 7 32 (bs 21 255) HT_ ?_
    refine pu_ 8 33 (bs 21 511) HT_ ?_
    refine pu_ 10 35 (bs 21 1535) HT_ ?_
    refine pu_ 11 36 (bs 21 3583) HT_ ?_
    refine pu_ 12 37 (bs 21 7679) HT_ ?_
    refine pu_ 15 40 (bs 21 40447) HT_ ?_
    refine pu_ 16 41 (bs 21 105983) HT_ ?_
    refine pu_ 17 42 (bs 21 237055) HT_ ?_
    refine tk_ 9 34 (bs 21 237567) HT_ HW_ hHeld ?_
    refine tk_ 18 43 (bs 21 499711) HT_ HW_ hHeld ?_
    refine on_ 13 (some 38) (bs 21 507903) HT_ (fun K hK => ?_)
    refine goes_ Try.func131 (by kernel_rfl) rfl #[.slice A1 l1.length c1, .int .i64 a2, .int .i64 (rd t583 x21_1)] (by rfl) rfl rfl tm_ ?_
    with_reducible refine (spec_l9Edge.calls k1 _ _ l1 a2 (rd t583 x21_1) t589 _ ?side1 ?side2 A18.out).mono ?_
    (case side1 => exact cb_ HR1 HB)
    (case side2 => exact HC1.out)
    rintro e w27 ⟨rfl, hb⟩
    have HS0_ := (hb.cell (World.block_lt_of_cell? _ _ (hHeld.1))).trans (hHeld.1)
    have HS1_ := (hb.cell (World.block_lt_of_cell? _ _ (hHeld.2.1))).trans (hHeld.2.1)
    have HS2_ := (hb.cell (World.block_lt_of_cell? _ _ (hHeld.2.2))).trans (hHeld.2.2)
    refine ⟨_, rfl, ?_⟩
    replace HO_9 := rb_ HO_9 hb
    replace HO_10 := rb_ HO_10 hb
    replace HO_19 := rb_ HO_19 hb
    replace HB := bst_ HB hb
    clear hb
    refine hK.out _ _ ⟨HS0_, HS1_, HS2_⟩ (fun hHeld => ?_)
    clear hK K
    refine nm_ 38 ?_
    refine pu_ 14 39 (bs 21 524287) HT_ ?_
    refine pu_ 19 44 (bs 21 1048575) HT_ ?_
    refine pu_ 20 45 (bs 21 2097151) HT_ ?_
    refine done_ (done_of HT_.out (by kernel_rfl)) ?_
    try go_wp2
    go_roundg k1
    case measure => have := HK1.out; omega
    case rel => exact ⟨(x10_1), (wrap64 (x21_1 + 1)), (by first | rfl | (simp; done) | (simp [*]; done)), H', ⟨by have := HK1.out; omega⟩, ⟨ra HO_9.out⟩, ⟨ra HO_10.out⟩, ⟨ra HO_19.out⟩, ⟨hB HB⟩⟩
   rw [if_pos c19] at H
   have c19b0 : ((wrap64 ((rd t580 (rd t583 x21_1)) + t589)) == (rd t580 a2)) = true := beq_iff_eq.mpr c19
   have c19b1 : ((wrap64 ((rd t580 (rd t583 x21_1)) + t589)) != (rd t580 a2)) = false := bne_eq_false_iff_eq.mpr c19
   clear c19
   by_cases c20 : x10_1.length < 17592186044416
   rotate_left
   ·rw [if_neg c20] at H
    exact absurd H (by simp)
   rw [if_pos c20] at H
   have LMc20 := Aside0.mk c20
   clear c20
   obtain ⟨y591, hy591⟩ : ∃ y_ : List Int, y_ = (x10_1 ++ [rd t583 x21_1]) := ⟨_, rfl⟩
   replace H : (spec_l9Hops.l0 k1 l1 a2 t580 y591 t583 (t583.length : Int) (wrap64 (x21_1 + 1))) = some r := by first | (rw [hy591]; with_reducible exact H) | (have H2_ := (Option.bind_some _ _).symm.trans H; rw [hy591]; with_reducible exact H2_) | (have H2_ := (Option.bind_some _ _).symm.trans H; with_reducible exact H2_) | with_reducible exact H | (rw [hy591]; exact H) | exact H
   have Ny591 := Aside0.mk hy591
   clear hy591
   have H' := Aside0.mk H
   clear H
   have p586 : 0 ≤ (x21_1 : Int) := od_
   have q586 : x21_1 < (t583.length : Int) := od_
   obtain ⟨ad586, e586, hx586_0⟩ := Kd.at_int (Kd.R_reads' HO_19.out).2.2 x21_1 p586 q586
   cases e586
   replace p586 := eq_true p586
   replace q586 := eq_true q586
   try go_wp2
   replace HO_9 := rd_ HO_9
   replace HO_10 := rd_ HO_10
   replace HO_19 := rd_ HO_19
   replace HB := Aside0.mk (below_drew1 HB.out)
   obtain ⟨Ao22, co22, eo22⟩ := Kd.R_slice HO_9.out
   subst eo22
   have p587 : 0 ≤ (a2 : Int) := od_
   have q587 : a2 < (t580.length : Int) := od_
   obtain ⟨ad587, e587, hx587_0⟩ := Kd.at_int (Kd.R_reads' HO_9.out).2.2 a2 p587 q587
   cases e587
   replace p587 := eq_true p587
   replace q587 := eq_true q587
   have p588 : 0 ≤ ((rd t583 x21_1) : Int) := od_
   have q588 : (rd t583 x21_1) < (t580.length : Int) := od_
   obtain ⟨ad588, e588, hx588_0⟩ := Kd.at_int (Kd.R_reads' HO_9.out).2.2 (rd t583 x21_1) p588 q588
   obtain rfl : ad587 = ad588 := (by injection e588)
   replace p588 := eq_true p588
   replace q588 := eq_true q588
   have p590 : 0 ≤ (a2 : Int) := od_
   have q590 : a2 < (t580.length : Int) := od_
   obtain ⟨ad590, e590, hx590_0⟩ := Kd.at_int (Kd.R_reads' HO_9.out).2.2 a2 p590 q590
   obtain rfl : ad587 = ad590 := (by injection e590)
   replace p590 := eq_true p590
   replace q590 := eq_true q590
   refine start_ (n := 21) (S := fun w' => w'.cell? (ad587.add (a2).toNat) = some (.int .i64 (rd t580 a2)) ∧ w'.cell? (ad587.add ((rd t583 x21_1)).toNat) = some (.int .i64 (rd t580 (rd t583 x21_1))) ∧ w'.cell? (ad587.add (a2).toNat) = some (.int .i64 (rd t580 a2))) (ds := []) (bs 21 0) (by kernel_rfl) rfl rfl ⟨hx587_0, hx588_0, hx590_0⟩ (fun hHeld => ?_); refine with_tabW spec_l9Hops.tab6 spec_l9Hops.bits6 (fun HT_ HW_ => ?_)
   generalize wr.drew = w21 at HO_9 HO_10 HO_19 HB hx587_0 hx588_0 hx590_0 hHeld ⊢
   refine pu_ 0 25 (bs 21 1) HT_ ?_
   refine pu_ 1 26 (bs 21 3) HT_ ?_
   refine pu_ 2 27 (bs 21 7) HT_ ?_
   refine tk_ 3 28 (bs 21 15) HT_ HW_ hHeld ?_
   refine pu_ 4 29 (bs 21 31) HT_ ?_
   refine pu_ 5 30 (bs 21 63) HT_ ?_
   refine pu_ 6 31 (bs 21 127) HT_ ?_
   refine pu_ 7 32 (bs 21 255) HT_ ?_
   refine pu_ 8 33 (bs 21 511) HT_ ?_
   refine pu_ 10 35 (bs 21 1535) HT_ ?_
   refine pu_ 11 36 (bs 21 3583) HT_ ?_
   refine pu_ 12 37 (bs 21 7679) HT_ ?_
   refine pu_ 15 40 (bs 21 40447) HT_ ?_
   refine pu_ 16 41 (bs 21 105983) HT_ ?_
   refine pu_ 17 42 (bs 21 237055) HT_ ?_
   refine tk_ 9 34 (bs 21 237567) HT_ HW_ hHeld ?_
   refine tk_ 18 43 (bs 21 499711) HT_ HW_ hHeld ?_
   refine on_ 13 (some 38) (bs 21 507903) HT_ (fun K hK => ?_)
   refine goes_ Try.func131 (by kernel_rfl) rfl #[.slice A1 l1.length c1, .int .i64 a2, .int .i64 (rd t583 x21_1)] (by rfl) rfl rfl tm_ ?_
   with_reducible refine (spec_l9Edge.calls k1 _ _ l1 a2 (rd t583 x21_1) t589 _ ?side1 ?side2 A18.out).mono ?_
   (case side1 => exact cb_ HR1 HB)
   (case side2 => exact HC1.out)
   rintro e w23 ⟨rfl, hb⟩
   have HS0_ := (hb.cell (World.block_lt_of_cell? _ _ (hHeld.1))).trans (hHeld.1)
   have HS1_ := (hb.cell (World.block_lt_of_cell? _ _ (hHeld.2.1))).trans (hHeld.2.1)
   have HS2_ := (hb.cell (World.block_lt_of_cell? _ _ (hHeld.2.2))).trans (hHeld.2.2)
   refine ⟨_, rfl, ?_⟩
   replace HO_9 := rb_ HO_9 hb
   replace HO_10 := rb_ HO_10 hb
   replace HO_19 := rb_ HO_19 hb
   replace HB := bst_ HB hb
   clear hb
   refine hK.out _ _ ⟨HS0_, HS1_, HS2_⟩ (fun hHeld => ?_)
   clear hK K
   refine nm_ 38 ?_
   refine pu_ 14 39 (bs 21 524287) HT_ ?_
   refine pu_ 19 44 (bs 21 1048575) HT_ ?_
   refine pu_ 20 45 (bs 21 2097151) HT_ ?_
   refine done_ (done_of HT_.out (by kernel_rfl)) ?_
   try go_wp2_with (first | ((with_reducible refine gate_builtin (b := .append) (xs := #[.tmp 46, .tmp 48]) rfl ?_); at_builtin; refine Kd.R_append (Kd.int .i64) (w0 := w) w.heap.size rfl (.tmp 46) (.tmp 48) 23 3 (.int .i64 0) 8 rfl Try.underlying23 info3 rfl (by decide) (by omega) u10 x10_1 (rd t583 x21_1) [.int .i64 (rd t583 x21_1)] (fun k_ => some k_ ≠ (.slice (some ad587) t580.length co22 : Value).ownBlock ∧ some k_ ≠ (.slice (some ad586) t583.length co9 : Value).ownBlock) (fun _ => False) rfl rfl ?aP (fun _ hk => hk.elim) ?aF ?aO ?aB ?aS ?aL ?_; (case aP => exact rfl); (case aB => exact (hB HB)); (case aF => exact (fun k_ hk => ⟨Kd.fresh' (rl_ HO_9) k_ hk, Kd.fresh' (rl_ HO_19) k_ hk⟩)); (case aO => exact (ra HO_10.out)); (case aS => exact (below_size (hB HB))); (case aL => have := LMc20.out; omega); intro v592 w24 ho hb hg hat; rw [← Ny591.out] at ho; have HO593 := Aside0.mk (ho); replace HO_9 := Aside0.mk (Kd.R_after (ok := (fun k_ => some k_ ≠ (.slice (some ad586) t583.length co9 : Value).ownBlock)) (rm_ HO_9 (fun _ hk => ⟨hk.2, hk.1⟩)).out hg hat); replace HO_19 := Aside0.mk (Kd.R_after (ok := (fun k_ => some k_ ≠ (.slice (some ad587) t580.length co22 : Value).ownBlock)) (ra HO_19.out) hg hat); replace HB := Aside0.mk (hb); clear HO_10; clear ho hb hg hat))
   go_roundg k1
   case measure => have := HK1.out; omega
   case rel => exact ⟨(y591), (wrap64 (x21_1 + 1)), (by first | rfl | (simp; done) | (simp [*]; done)), H', ⟨by have := HK1.out; omega⟩, rm_ HO_9 (fun _ hk => ⟨hk.2, hk.1⟩), ⟨ra HO593.out⟩, ⟨ra HO_19.out⟩, ⟨hB HB⟩⟩

def spec_WayTo.l0 : Nat → Int → List (S86) → Int → Int → List Int → Int → Option (List Int × Int × Bool)
 | 0, _, _, _, _, _, _ => none
 | k + 1, x0, x1, x2, x3, x11, x12 => if x12 = x3 then ((spec_l9Fars.f k x0 x1 x3).bind fun t598 => (if 0 ≤ x2 then (if x2 < (t598.length : Int) then (some (x11, rd t598 x2, true)) else (none)) else (none))) else ((spec_l9Hops.f k x0 x1 x12 x3).bind fun t602 => (if (t602.length : Int) = 0 then (some (([] : List Int), 0, false)) else (if 0 < (t602.length : Int) then (if x11.length < 17592186044416 then (spec_WayTo.l0 k x0 x1 x2 x3 (x11 ++ [rd t602 0]) (rd t602 0)) else (none)) else (none))))
def spec_WayTo.f (k : Nat) (a0 : Int) (l1 : List (S86)) (a2 : Int) (a3 : Int) : Option (List Int × Int × Bool) := (spec_l9Two.f k a0 l1 a2 a3).bind fun t594 => (if t594 = true then (spec_WayTo.l0 k a0 l1 a2 a3 (([a2] : List Int)) a2) else (some (([] : List Int), 0, false)))
theorem spec_WayTo.mono_l : ∀ k, (∀ y0 y1 y2 y3 y4 y5, LeO (spec_WayTo.l0 k y0 y1 y2 y3 y4 y5) (spec_WayTo.l0 (k + 1) y0 y1 y2 y3 y4 y5))
 | 0 => fun _ _ _ _ _ _ r h => by simp [spec_WayTo.l0] at h
 | k + 1 => by
  have ih0 := spec_WayTo.mono_l k
  ·intro y0 y1 y2 y3 y4 y5
   unfold spec_WayTo.l0
   repeat' first
   | (with_reducible exact ih0 _ _ _ _ _ _)
   | (with_reducible exact spec_l9Fars.mono _ _ _ _)
   | (with_reducible exact spec_l9Hops.mono _ _ _ _ _)
   | (with_reducible exact spec_l9Two.mono _ _ _ _ _)
   | with_reducible first | exact LeO.refl _ | exact LeO.none _ | refine LeO.ite ?_ ?_ | refine LeO.bind ?_ fun _ => ?_
theorem spec_WayTo.mono : ∀ a0 a1 a2 a3 k, LeO (spec_WayTo.f k a0 a1 a2 a3) (spec_WayTo.f (k + 1) a0 a1 a2 a3) := by
 intro a0 a1 a2 a3 k
 have ih0 := spec_WayTo.mono_l k
 unfold spec_WayTo.f
 repeat' first
   | (with_reducible exact ih0 _ _ _ _ _ _)
   | (with_reducible exact spec_l9Fars.mono _ _ _ _)
   | (with_reducible exact spec_l9Hops.mono _ _ _ _ _)
   | (with_reducible exact spec_l9Two.mono _ _ _ _ _)
   | with_reducible first | exact LeO.refl _ | exact LeO.none _ | refine LeO.ite ?_ ?_ | refine LeO.bind ?_ fun _ => ?_
def spec_WayTo.T11 : Bool × List (List Nat × List Nat) := (true, [([], []), ([], []), ([], []), ([], []), ([1, 2, 3], [1, 2, 3]), ([], []), ([4, 5], [4, 5]), ([6], [6]), ([0, 4, 0], [0]), ([7, 8, 0, 1, 2, 3, 4, 5, 6, 7, 8], [7]), ([9, 0, 1, 2, 3, 4, 5, 6, 7, 8, 9], [])])
def spec_WayTo.B11 : List Nat := [0, 0, 0, 0, 14, 0, 62, 126, 31, 511, 1023]
theorem spec_WayTo.tab11 : rtab .any (opsOf Try.f64 11) = spec_WayTo.T11 := by kernel_rfl
theorem spec_WayTo.bits11 : waitsOk spec_WayTo.T11.2 spec_WayTo.B11 = true := by kernel_rfl
set_option maxHeartbeats 8000000 in
set_option maxRecDepth 100000 in
theorem spec_WayTo.calls (k : Nat) (a0 : Int) (A1 : Option Addr) (c1 : Nat) (l1 : List (S86)) (a2 : Int) (a3 : Int) (r1 : List Int) (r2 : Int) (r3 : Bool) (w : World) (hr1 : Kd.C k86 w A1 l1.length l1) (hc1 : l1.length ≤ c1) (h : spec_WayTo.f k a0 l1 a2 a3 = some (r1, r2, r3)) :
  Calls Try.prog 64 #[.int .i64 a0, .slice A1 l1.length c1, .int .i64 a2, .int .i64 a3] w fun e w' => ∃ v0_ : Value, e = .returned (.tuple #[v0_, .int .i64 r2, .bool r3]) ∧ Kd.R (Kd.int .i64) 3 w' w.heap.size (fun _ => True) v0_ r1 ∧ Below w.heap.size w w' := by
 have HR1 := Aside0.mk hr1
 have HC1 := Aside0.mk hc1
 clear hr1 hc1
 have HB := Aside0.mk (Below.refl w.heap.size w)
 have H : ((spec_l9Two.f k a0 l1 a2 a3).bind fun t594 => (if t594 = true then (spec_WayTo.l0 k a0 l1 a2 a3 (([a2] : List Int)) a2) else (some (([] : List Int), 0, false)))) = some (r1, r2, r3) := h
 clear h
 replace H := Option.bind_eq_some_iff.mp H
 obtain ⟨t594, A50, H⟩ := H
 replace H : (if t594 = true then (spec_WayTo.l0 k a0 l1 a2 a3 (([a2] : List Int)) a2) else (some (([] : List Int), 0, false))) = some (r1, r2, r3) := H
 have A5 := Aside0.mk A50
 clear A50
 by_cases c6 : t594 = true
 rotate_left
 ·replace c6 := Bool.eq_false_iff.mpr c6
  subst c6
  rw [if_neg (show ¬ (false = true) by decide)] at H
  simp only [Option.some.injEq, Prod.mk.injEq] at H
  obtain ⟨rfl, rfl, rfl⟩ := H
  go_enter Try.func64, Try.ntmps64
  go_wp2_with (first | (refine goesL_ (some 18) rfl rfl Try.func103 (by kernel_rfl) rfl #[.int .i64 a0, .slice A1 l1.length c1, .int .i64 a2, .int .i64 a3] rfl tm_ ?_; (with_reducible refine (spec_l9Two.calls k a0 _ _ l1 a2 a3 false _ ?side1 ?side2 A5.out).mono ?_); (case side1 => exact ca HR1.out); (case side2 => exact HC1.out); rintro e w26 ⟨rfl, hb⟩; refine ⟨_, rfl, ?_⟩; replace HB := bst_ HB hb; clear hb))
  go_ret3
  exact ⟨_, rt_, by first | exact Kd.R_nil _ _ _ _ _ | exact Kd.N_nil _ _ _ _ _ | exact Kd.V_nil _ _ _ _ _ | exact Kd.Q_nil _ _ _ _ _ | exact Kd.S_nil _ _ _ _ _, hB HB⟩
 subst c6
 rw [if_pos rfl] at H
 obtain ⟨y595, hy595⟩ : ∃ y_ : List Int, y_ = (([a2] : List Int)) := ⟨_, rfl⟩
 replace H : (spec_WayTo.l0 k a0 l1 a2 a3 y595 a2) = some (r1, r2, r3) := by first | (rw [hy595]; with_reducible exact H) | (have H2_ := (Option.bind_some _ _).symm.trans H; rw [hy595]; with_reducible exact H2_) | (have H2_ := (Option.bind_some _ _).symm.trans H; with_reducible exact H2_) | with_reducible exact H | (rw [hy595]; exact H) | exact H
 have Ny595 := Aside0.mk hy595
 clear hy595
 have H' := Aside0.mk H
 clear H
 go_enter Try.func64, Try.ntmps64
 go_wp2_with (first | (refine goesL_ (some 18) rfl rfl Try.func103 (by kernel_rfl) rfl #[.int .i64 a0, .slice A1 l1.length c1, .int .i64 a2, .int .i64 a3] rfl tm_ ?_; (with_reducible refine (spec_l9Two.calls k a0 _ _ l1 a2 a3 true _ ?side1 ?side2 A5.out).mono ?_); (case side1 => exact ca HR1.out); (case side2 => exact HC1.out); rintro e w7 ⟨rfl, hb⟩; refine ⟨_, rfl, ?_⟩; replace HB := bst_ HB hb; clear hb) | ((with_reducible refine gate_dst (N := 21) rfl ?_); refine Kd.R_lit (Kd.int .i64) _ 3 ?hg (N := 21) ?hd (xs := ([a2] : List Int)) (inner := [.int .i64 a2]) (ok := fun _ => True) (okp := fun _ => True) ?hr ?hp (fun _ hk => hk) trivial (Below.refl _ _) (Nat.le_refl _) (by simp) ?_; (case hd => rfl); (case hg => rfl); (case hr => first | (go_simp; done) | (go_simp; rfl)); (case hp => exact (Reps.one (show Kd.M (Kd.int .i64) _ _ _ a2 [.int .i64 a2] from rfl) (Reps.none _ _))); intro v596 w8 ho9 hb hg_ hnew_; clear hg_ hnew_; (first | rw [← Ny595.out] at ho9 | (simp only [Int.reduceToNat] at ho9; rw [← Ny595.out] at ho9)); have HO597 := Aside0.mk (Kd.R_lower ho9 (below_size (hB HB))); replace HB := bst_ HB hb; clear hb ho9))
 go_loopg [11, 12] k (fun kq v11 v12 w' => ∃ (x11_1 : List Int) (x12_1 : Int), v12 = .int .i64 x12_1 ∧ Aside0 (spec_WayTo.l0 kq a0 l1 a2 a3 x11_1 x12_1 = some (r1, r2, r3)) ∧ Aside0 (kq ≤ k) ∧ Aside0 (Kd.R (Kd.int .i64) 3 w' w.heap.size (fun _ => True) v11 x11_1) ∧ Aside0 (Below w.heap.size w w'))
 case atStart => exact ⟨(y595), (a2), (by first | rfl | (simp; done) | (simp [*]; done)), H', ⟨Nat.le_refl _⟩, ⟨ra HO597.out⟩, ⟨hB HB⟩⟩
 case round =>
  clear H'
  try clear c1
  try clear c6
  obtain ⟨x11_1, x12_1, rfl, HA, HK1, HO_11, HB⟩ := hrel
  cases gk with
  | zero => exact absurd HA.out (by simp [spec_WayTo.l0])
  | succ k1 =>
   have H := HA.out
   clear HA
   simp only [spec_WayTo.l0] at H
   by_cases c10 : x12_1 = a3
   ·rw [if_pos c10] at H
    have c10b0 : (x12_1 == a3) = true := beq_iff_eq.mpr c10
    have c10b1 : (x12_1 != a3) = false := bne_eq_false_iff_eq.mpr c10
    clear c10
    replace H := Option.bind_eq_some_iff.mp H
    obtain ⟨t598, A110, H⟩ := H
    replace H : (if 0 ≤ a2 then (if a2 < (t598.length : Int) then (some (x11_1, rd t598 a2, true)) else (none)) else (none)) = some (r1, r2, r3) := H
    have A11 := Aside0.mk A110
    clear A110
    by_cases c12 : 0 ≤ a2
    rotate_left
    ·rw [if_neg c12] at H
     exact absurd H (by simp)
    rw [if_pos c12] at H
    have c12b0 : decide (0 ≤ a2) = true := decide_eq_true c12
    clear c12
    by_cases c13 : a2 < (t598.length : Int)
    rotate_left
    ·rw [if_neg c13] at H
     exact absurd H (by simp)
    rw [if_pos c13] at H
    have c13b0 : decide (a2 < (t598.length : Int)) = true := decide_eq_true c13
    clear c13
    simp only [Option.some.injEq, Prod.mk.injEq] at H
    obtain ⟨rfl, rfl, rfl⟩ := H
    try go_wp2
    replace HO_11 := rd_ HO_11
    replace HB := Aside0.mk (below_drew1 HB.out)
    refine start_ (n := 11) (S := fun _ => True) (ds := []) (bs 11 0) (by kernel_rfl) rfl rfl trivial (fun hHeld => ?_); refine with_tabW spec_WayTo.tab11 spec_WayTo.bits11 (fun HT_ HW_ => ?_)
    generalize wr.drew = w14 at HO_11 HB hHeld ⊢
    refine pu_ 0 41 (bs 11 1) HT_ ?_
    refine pu_ 1 42 (bs 11 3) HT_ ?_
    refine pu_ 2 43 (bs 11 7) HT_ ?_
    refine pu_ 3 44 (bs 11 15) HT_ ?_
    refine pu_ 5 46 (bs 11 47) HT_ ?_
    refine on_ 4 (some 45) (bs 11 63) HT_ (fun K hK => ?_)
    refine goes_ Try.func105 (by kernel_rfl) rfl #[.int .i64 a0, .slice A1 l1.length c1, .int .i64 a3] (by rfl) rfl rfl tm_ ?_
    with_reducible refine (spec_l9Fars.calls k1 a0 _ _ l1 a3 t598 _ ?side1 ?side2 A11.out).mono ?_
    (case side1 => exact cb_ HR1 HB)
    (case side2 => exact HC1.out)
    rintro e w15 ⟨v599, rfl, ho0, hb⟩
    refine ⟨_, rfl, ?_⟩
    have HO600 := Aside0.mk (Kd.R_lower (Kd.R_new' ho0 (rl_ HO_11)) (below_size (hB HB)))
    replace HO_11 := re_ HO_11 ho0 hb
    replace HB := bst_ HB hb
    clear hb ho0
    obtain ⟨Ao16, co16, eo16⟩ := Kd.R_slice HO600.out
    subst eo16
    have p601 : 0 ≤ (a2 : Int) := od_
    have q601 : a2 < (t598.length : Int) := od_
    obtain ⟨ad601, e601, hx601_0⟩ := Kd.at_int (Kd.R_reads' HO600.out).2.2 a2 p601 q601
    cases e601
    replace p601 := eq_true p601
    replace q601 := eq_true q601
    refine hK.out _ _ trivial (fun hHeld => ?_)
    clear hK K
    refine nm_ 45 ?_
    refine pu_ 6 47 (bs 11 127) HT_ ?_
    refine pu_ 8 8 (bs 11 383) HT_ ?_
    refine on_ 7 (some 48) (bs 11 511) HT_ (fun K hK => ?_)
    refine value_ (w1 := ?_) (v := .int .i64 (rd t598 a2)) (by rfl) rfl ?_ ?_
    rotate_left
    ·go_simp
     rfl
    refine hK.out _ _ trivial (fun hHeld => ?_)
    clear hK K
    refine nm_ 48 ?_
    refine pu_ 9 9 (bs 11 1023) HT_ ?_
    refine pu_ 10 10 (bs 11 2047) HT_ ?_
    refine done_ (done_of HT_.out (by kernel_rfl)) ?_
    try go_wp2
    go_ret3
    exact ⟨_, rt_, by (with_reducible repeat (first | apply Kd.R_alloc | apply Kd.R_drewN | apply Kd.R_drew)); exact Kd.R_mono HO_11.out (fun _ hk => trivial), hB HB⟩
   rw [if_neg c10] at H
   have c10b0 : (x12_1 == a3) = false := beq_eq_false_iff_ne.mpr c10
   have c10b1 : (x12_1 != a3) = true := bne_iff_ne.mpr c10
   replace H := Option.bind_eq_some_iff.mp H
   obtain ⟨t602, A170, H⟩ := H
   replace H : (if (t602.length : Int) = 0 then (some (([] : List Int), 0, false)) else (if 0 < (t602.length : Int) then (if x11_1.length < 17592186044416 then (spec_WayTo.l0 k1 a0 l1 a2 a3 (x11_1 ++ [rd t602 0]) (rd t602 0)) else (none)) else (none))) = some (r1, r2, r3) := H
   have A17 := Aside0.mk A170
   clear A170
   by_cases c18 : (t602.length : Int) = 0
   ·rw [if_pos c18] at H
    have c18b0 : ((t602.length : Int) == 0) = true := beq_iff_eq.mpr c18
    have c18b1 : ((t602.length : Int) != 0) = false := bne_eq_false_iff_eq.mpr c18
    clear c18
    simp only [Option.some.injEq, Prod.mk.injEq] at H
    obtain ⟨rfl, rfl, rfl⟩ := H
    go_wp2_with (first | (refine goesL_ (some 30) rfl rfl Try.func104 (by kernel_rfl) rfl #[.int .i64 a0, .slice A1 l1.length c1, .int .i64 x12_1, .int .i64 a3] rfl tm_ ?_; (with_reducible refine (spec_l9Hops.calls k1 a0 _ _ l1 x12_1 a3 t602 _ ?side1 ?side2 A17.out).mono ?_); (case side1 => exact cb_ HR1 HB); (case side2 => exact HC1.out); rintro e w19 ⟨v603, rfl, ho0, hb⟩; refine ⟨_, rfl, ?_⟩; have HO604 := Aside0.mk (Kd.R_lower (Kd.R_new' ho0 (rl_ HO_11)) (below_size (hB HB))); replace HO_11 := re_ HO_11 ho0 hb; replace HB := bst_ HB hb; clear hb ho0; obtain ⟨Ao20, co20, eo20⟩ := Kd.R_slice HO604.out; subst eo20))
    go_ret3
    exact ⟨_, rt_, by first | exact Kd.R_nil _ _ _ _ _ | exact Kd.N_nil _ _ _ _ _ | exact Kd.V_nil _ _ _ _ _ | exact Kd.Q_nil _ _ _ _ _ | exact Kd.S_nil _ _ _ _ _, hB HB⟩
   rw [if_neg c18] at H
   have c18b0 : ((t602.length : Int) == 0) = false := beq_eq_false_iff_ne.mpr c18
   have c18b1 : ((t602.length : Int) != 0) = true := bne_iff_ne.mpr c18
   have c18b2 : ¬ (t602 = []) := fun h_ => c18 (by rw [h_]; rfl)
   by_cases c21 : 0 < (t602.length : Int)
   rotate_left
   ·rw [if_neg c21] at H
    exact absurd H (by simp)
   rw [if_pos c21] at H
   have c21b0 : decide (0 < (t602.length : Int)) = true := decide_eq_true c21
   have c21b1 : decide (0 < t602.length) = true := decide_eq_true (by omega)
   clear c21
   by_cases c22 : x11_1.length < 17592186044416
   rotate_left
   ·rw [if_neg c22] at H
    exact absurd H (by simp)
   rw [if_pos c22] at H
   have LMc22 := Aside0.mk c22
   clear c22
   obtain ⟨y606, hy606⟩ : ∃ y_ : List Int, y_ = (x11_1 ++ [rd t602 0]) := ⟨_, rfl⟩
   replace H : (spec_WayTo.l0 k1 a0 l1 a2 a3 y606 (rd t602 0)) = some (r1, r2, r3) := by first | (rw [hy606]; with_reducible exact H) | (have H2_ := (Option.bind_some _ _).symm.trans H; rw [hy606]; with_reducible exact H2_) | (have H2_ := (Option.bind_some _ _).symm.trans H; with_reducible exact H2_) | with_reducible exact H | (rw [hy606]; exact H) | exact H
   have Ny606 := Aside0.mk hy606
   clear hy606
   have H' := Aside0.mk H
   clear H
   go_wp2_with (first | (refine goesL_ (some 30) rfl rfl Try.func104 (by kernel_rfl) rfl #[.int .i64 a0, .slice A1 l1.length c1, .int .i64 x12_1, .int .i64 a3] rfl tm_ ?_; (with_reducible refine (spec_l9Hops.calls k1 a0 _ _ l1 x12_1 a3 t602 _ ?side1 ?side2 A17.out).mono ?_); (case side1 => exact cb_ HR1 HB); (case side2 => exact HC1.out); rintro e w23 ⟨v603, rfl, ho0, hb⟩; refine ⟨_, rfl, ?_⟩; have HO604 := Aside0.mk (Kd.R_lower (Kd.R_new' ho0 (rl_ HO_11)) (below_size (hB HB))); replace HO_11 := re_ HO_11 ho0 hb; replace HB := bst_ HB hb; clear hb ho0; obtain ⟨Ao24, co24, eo24⟩ := Kd.R_slice HO604.out; subst eo24; have p605 : 0 ≤ (0 : Int) := (by omega); have q605 : 0 < (t602.length : Int) := od_; obtain ⟨ad605, e605, hx605_0⟩ := Kd.at_int (Kd.R_reads' HO604.out).2.2 0 p605 q605; cases e605; have qi605 : (0 < t602.length) = True := eq_true (by omega); (try rw [show ((0 : Int)).toNat = 0 from rfl] at hx605_0); (try rw [Addr.add_zero'] at hx605_0); replace p605 := eq_true p605; replace q605 := eq_true q605) | ((with_reducible refine gate_builtin (b := .append) (xs := #[.tmp 37, .tmp 39]) rfl ?_); at_builtin; refine Kd.R_append (Kd.int .i64) (w0 := w) w.heap.size rfl (.tmp 37) (.tmp 39) 23 3 (.int .i64 0) 8 rfl Try.underlying23 info3 rfl (by decide) (by omega) u11 x11_1 (rd t602 0) [.int .i64 (rd t602 0)] (fun k_ => some k_ ≠ (.slice (some ad605) t602.length co24 : Value).ownBlock) (fun _ => False) rfl rfl ?aP (fun _ hk => hk.elim) ?aF ?aO ?aB ?aS ?aL ?_; (case aP => exact rfl); (case aB => exact (hB HB)); (case aF => exact (fun k_ hk => Kd.fresh' (rl_ HO604) k_ hk)); (case aO => exact (rm_ HO_11 (fun _ hk => hk.2)).out); (case aS => exact (below_size (hB HB))); (case aL => have := LMc22.out; omega); intro v607 w25 ho hb hg hat; rw [← Ny606.out] at ho; have HO608 := Aside0.mk (ho); replace HO604 := Aside0.mk (Kd.R_after (ok := (fun _ => True)) (ra HO604.out) hg hat); replace HB := Aside0.mk (hb); clear HO_11; clear ho hb hg hat))
   go_roundg k1
   case measure => have := HK1.out; omega
   case rel => exact ⟨(y606), (rd t602 0), (by first | rfl | (simp; done) | (simp [*]; done)), H', ⟨by have := HK1.out; omega⟩, rm_ HO608 (fun _ hk => trivial), ⟨hB HB⟩⟩

def spec_SendOne.l0 : Nat → List Int → Bool → List (S95) → Int → Option ((List (S95)) × Bool × Bool)
 | 0, _, _, _, _ => none
 | k + 1, x12, x14, x15, x16 => if x16 < (x12.length : Int) then (if 0 ≤ (wrap64 (x16 - 1)) then (if (wrap64 (x16 - 1)) < (x12.length : Int) then (if 0 ≤ x16 then (if x15.length < 8796093022208 then (spec_SendOne.l0 k x12 x14 (x15 ++ [(⟨rd x12 (wrap64 (x16 - 1)), rd x12 x16⟩ : S95)]) (wrap64 (x16 + 1))) else (none)) else (none)) else (none)) else (none)) else (some (x15, x14, true))
def spec_SendOne.f (k : Nat) (a0_0 : Int) (l0_1 : List (S86)) (l0_2 : List Int) (l0_3 : List (S130)) (a1 : Int) (a2 : Int) : Option ((List (S95)) × Bool × Bool) := (spec_l17Spots.f k a0_0 l0_1 l0_2 l0_3 a1 a2).bind fun bt610 => (if bt610.2.2 = true then ((spec_l17Up.f k a0_0 l0_1 l0_2 l0_3).bind fun t613 => ((spec_WayTo.f k a0_0 t613 bt610.1 bt610.2.1).bind fun bt616 => (spec_SendOne.l0 k bt616.1 bt616.2.2 ([] : List (S95)) 1))) else (some (([] : List (S95)), false, false)))
theorem spec_SendOne.mono_l : ∀ k, (∀ y0 y1 y2 y3, LeO (spec_SendOne.l0 k y0 y1 y2 y3) (spec_SendOne.l0 (k + 1) y0 y1 y2 y3))
 | 0 => fun _ _ _ _ r h => by simp [spec_SendOne.l0] at h
 | k + 1 => by
  have ih0 := spec_SendOne.mono_l k
  ·intro y0 y1 y2 y3
   unfold spec_SendOne.l0
   repeat' first
   | (with_reducible exact ih0 _ _ _ _)
   | (with_reducible exact spec_WayTo.mono _ _ _ _ _)
   | (with_reducible exact spec_l17Spots.mono _ _ _ _ _ _ _)
   | (with_reducible exact spec_l17Up.mono _ _ _ _ _)
   | with_reducible first | exact LeO.refl _ | exact LeO.none _ | refine LeO.ite ?_ ?_ | refine LeO.bind ?_ fun _ => ?_
theorem spec_SendOne.mono : ∀ a0 a1 a2 a3 a4 a5 k, LeO (spec_SendOne.f k a0 a1 a2 a3 a4 a5) (spec_SendOne.f (k + 1) a0 a1 a2 a3 a4 a5) := by
 intro a0 a1 a2 a3 a4 a5 k
 have ih0 := spec_SendOne.mono_l k
 unfold spec_SendOne.f
 repeat' first
   | (with_reducible exact ih0 _ _ _ _)
   | (with_reducible exact spec_WayTo.mono _ _ _ _ _)
   | (with_reducible exact spec_l17Spots.mono _ _ _ _ _ _ _)
   | (with_reducible exact spec_l17Up.mono _ _ _ _ _)
   | with_reducible first | exact LeO.refl _ | exact LeO.none _ | refine LeO.ite ?_ ?_ | refine LeO.bind ?_ fun _ => ?_
def spec_SendOne.T4 : Bool × List (List Nat × List Nat) := (true, [([], []), ([0], [0]), ([], []), ([2], [2]), ([], []), ([], []), ([1, 3, 4, 5, 3], [1, 3, 4, 5]), ([6], [6]), ([7], [7]), ([7], [7]), ([7], [7]), ([8, 6, 0, 1, 2, 3, 4, 5, 6, 7, 8], [8]), ([9, 11, 0, 1, 2, 3, 4, 5, 6, 7, 8, 9, 11], [9]), ([10, 12, 0, 1, 2, 3, 4, 5, 6, 7, 8, 9, 10, 11, 12], [10])])
def spec_SendOne.B4 : List Nat := [0, 1, 0, 4, 0, 0, 63, 127, 255, 255, 255, 511, 3071, 8191]
theorem spec_SendOne.tab4 : rtab .any (opsOf Try.f22 4) = spec_SendOne.T4 := by kernel_rfl
theorem spec_SendOne.bits4 : waitsOk spec_SendOne.T4.2 spec_SendOne.B4 = true := by kernel_rfl
def spec_SendOne.T9 : Bool × List (List Nat × List Nat) := (true, [([], []), ([], []), ([], []), ([2], [2]), ([1, 3], [1, 3]), ([4], [4]), ([], []), ([], []), ([6, 7], [6, 7]), ([8], [8]), ([5, 9], [5, 9]), ([10], [10]), ([0, 11], [0, 11]), ([12, 12, 0, 1, 2, 3, 4, 5, 6, 7, 8, 9, 10, 11, 12], [0, 12])])
def spec_SendOne.B9 : List Nat := [0, 0, 0, 4, 14, 30, 0, 0, 192, 448, 1022, 2046, 4095, 8191]
theorem spec_SendOne.tab9 : rtab .any (opsOf Try.f22 9) = spec_SendOne.T9 := by kernel_rfl
theorem spec_SendOne.bits9 : waitsOk spec_SendOne.T9.2 spec_SendOne.B9 = true := by kernel_rfl
set_option maxHeartbeats 8000000 in
set_option maxRecDepth 100000 in
theorem spec_SendOne.calls (k : Nat) (a0_0 : Int) (A0_1 : Option Addr) (c0_1 : Nat) (l0_1 : List (S86)) (A0_2 : Option Addr) (c0_2 : Nat) (l0_2 : List Int) (A0_3 : Option Addr) (c0_3 : Nat) (l0_3 : List (S130)) (a1 : Int) (a2 : Int) (r1 : List (S95)) (r2 : Bool) (r3 : Bool) (w : World) (hr0_1 : Kd.C k86 w A0_1 l0_1.length l0_1) (hc0_1 : l0_1.length ≤ c0_1) (hr0_2 : Kd.C (Kd.int .i64) w A0_2 l0_2.length l0_2) (hc0_2 : l0_2.length ≤ c0_2) (hr0_3 : Kd.C k130 w A0_3 l0_3.length l0_3) (hc0_3 : l0_3.length ≤ c0_3) (h : spec_SendOne.f k a0_0 l0_1 l0_2 l0_3 a1 a2 = some (r1, r2, r3)) :
  Calls Try.prog 22 #[.agg #[.int .i64 a0_0, .slice A0_1 l0_1.length c0_1, .slice A0_2 l0_2.length c0_2, .slice A0_3 l0_3.length c0_3], .int .i64 a1, .int .i64 a2] w fun e w' => ∃ v0_ : Value, e = .returned (.tuple #[v0_, .bool r2, .bool r3]) ∧ Kd.R k95 95 w' w.heap.size (fun _ => True) v0_ r1 ∧ Below w.heap.size w w' := by
 have hu33 := Try.underlying33
 have hu95 := Try.underlying95
 have HR0_1 := Aside0.mk hr0_1
 have HC0_1 := Aside0.mk hc0_1
 clear hr0_1 hc0_1
 have HR0_2 := Aside0.mk hr0_2
 have HC0_2 := Aside0.mk hc0_2
 clear hr0_2 hc0_2
 have HR0_3 := Aside0.mk hr0_3
 have HC0_3 := Aside0.mk hc0_3
 clear hr0_3 hc0_3
 have HB := Aside0.mk (Below.refl w.heap.size w)
 have H : ((spec_l17Spots.f k a0_0 l0_1 l0_2 l0_3 a1 a2).bind fun bt610 => (if bt610.2.2 = true then ((spec_l17Up.f k a0_0 l0_1 l0_2 l0_3).bind fun t613 => ((spec_WayTo.f k a0_0 t613 bt610.1 bt610.2.1).bind fun bt616 => (spec_SendOne.l0 k bt616.1 bt616.2.2 ([] : List (S95)) 1))) else (some (([] : List (S95)), false, false)))) = some (r1, r2, r3) := h
 clear h
 replace H := Option.bind_eq_some_iff.mp H
 obtain ⟨⟨t610, t611, t612⟩, A40, H⟩ := H
 replace H : (if t612 = true then ((spec_l17Up.f k a0_0 l0_1 l0_2 l0_3).bind fun t613 => ((spec_WayTo.f k a0_0 t613 t610 t611).bind fun bt616 => (spec_SendOne.l0 k bt616.1 bt616.2.2 ([] : List (S95)) 1))) else (some (([] : List (S95)), false, false))) = some (r1, r2, r3) := H
 have A4 := Aside0.mk A40
 clear A40
 by_cases c5 : t612 = true
 rotate_left
 ·replace c5 := Bool.eq_false_iff.mpr c5
  subst c5
  rw [if_neg (show ¬ (false = true) by decide)] at H
  simp only [Option.some.injEq, Prod.mk.injEq] at H
  obtain ⟨rfl, rfl, rfl⟩ := H
  go_enter Try.func22, Try.ntmps22
  go_wp2_with (first | ((with_reducible refine gate_dst (N := 3) rfl ?_); refine box_event ?hg (N := 3) ?hd (cs := #[.int .i64 a0_0, .slice A0_1 l0_1.length c0_1, .slice A0_2 l0_2.length c0_2, .slice A0_3 l0_3.length c0_3]) (t := 33) ?hr ?_; (case hd => rfl); (case hg => rfl); (case hr => first | (go_simp; done) | (go_simp; rfl)); intro gb609 hg w25 hbox hb; have BK609 := Aside0.mk (hbox); have GW609 := gw_ hg HB; have GE609 := gw_ hg HB; replace HB := bst_ HB hb; clear hb hbox hg; obtain ⟨hcz26_0, hcz26_1, hcz26_2, hcz26_3⟩ := bcs4_ BK609) | (refine goesL_ (some 21) rfl rfl Try.func62 (by kernel_rfl) rfl #[.agg #[.int .i64 a0_0, .slice A0_1 l0_1.length c0_1, .slice A0_2 l0_2.length c0_2, .slice A0_3 l0_3.length c0_3], .int .i64 a1, .int .i64 a2] rfl tm_ ?_; (with_reducible refine (spec_l17Spots.calls k a0_0 _ _ l0_1 _ _ l0_2 _ _ l0_3 a1 a2 t610 t611 false _ ?side1 ?side2 ?side3 ?side4 ?side5 ?side6 A4.out).mono ?_); (case side1 => exact cb_ HR0_1 HB); (case side2 => exact HC0_1.out); (case side3 => exact cb_ HR0_2 HB); (case side4 => exact HC0_2.out); (case side5 => exact cb_ HR0_3 HB); (case side6 => exact HC0_3.out); rintro e w27 ⟨rfl, hb⟩; refine ⟨_, rfl, ?_⟩; replace BK609 := bb_ BK609 hb; replace HB := bst_ HB hb; clear hb))
  go_ret3
  exact ⟨_, rt_, by first | exact Kd.R_nil _ _ _ _ _ | exact Kd.N_nil _ _ _ _ _ | exact Kd.V_nil _ _ _ _ _ | exact Kd.Q_nil _ _ _ _ _ | exact Kd.S_nil _ _ _ _ _, hB HB⟩
 subst c5
 rw [if_pos rfl] at H
 replace H := Option.bind_eq_some_iff.mp H
 obtain ⟨t613, A60, H⟩ := H
 replace H : ((spec_WayTo.f k a0_0 t613 t610 t611).bind fun bt616 => (spec_SendOne.l0 k bt616.1 bt616.2.2 ([] : List (S95)) 1)) = some (r1, r2, r3) := H
 have A6 := Aside0.mk A60
 clear A60
 replace H := Option.bind_eq_some_iff.mp H
 obtain ⟨⟨t616, t617, t618⟩, A70, H⟩ := H
 replace H : (spec_SendOne.l0 k t616 t618 ([] : List (S95)) 1) = some (r1, r2, r3) := H
 have A7 := Aside0.mk A70
 clear A70
 have H' := Aside0.mk H
 clear H
 go_enter Try.func22, Try.ntmps22
 try go_wp2_with (first | ((with_reducible refine gate_dst (N := 3) rfl ?_); refine box_event ?hg (N := 3) ?hd (cs := #[.int .i64 a0_0, .slice A0_1 l0_1.length c0_1, .slice A0_2 l0_2.length c0_2, .slice A0_3 l0_3.length c0_3]) (t := 33) ?hr ?_; (case hd => rfl); (case hg => rfl); (case hr => first | (go_simp; done) | (go_simp; rfl)); intro gb609 hg w8 hbox hb; have BK609 := Aside0.mk (hbox); have GW609 := gw_ hg HB; have GE609 := gw_ hg HB; replace HB := bst_ HB hb; clear hb hbox hg; obtain ⟨hcz9_0, hcz9_1, hcz9_2, hcz9_3⟩ := bcs4_ BK609) | (refine goesL_ (some 21) rfl rfl Try.func62 (by kernel_rfl) rfl #[.agg #[.int .i64 a0_0, .slice A0_1 l0_1.length c0_1, .slice A0_2 l0_2.length c0_2, .slice A0_3 l0_3.length c0_3], .int .i64 a1, .int .i64 a2] rfl tm_ ?_; (with_reducible refine (spec_l17Spots.calls k a0_0 _ _ l0_1 _ _ l0_2 _ _ l0_3 a1 a2 t610 t611 true _ ?side1 ?side2 ?side3 ?side4 ?side5 ?side6 A4.out).mono ?_); (case side1 => exact cb_ HR0_1 HB); (case side2 => exact HC0_1.out); (case side3 => exact cb_ HR0_2 HB); (case side4 => exact HC0_2.out); (case side5 => exact cb_ HR0_3 HB); (case side6 => exact HC0_3.out); rintro e w10 ⟨rfl, hb⟩; refine ⟨_, rfl, ?_⟩; replace BK609 := bb_ BK609 hb; replace HB := bst_ HB hb; clear hb))
 replace BK609 := bd_ BK609
 replace HB := Aside0.mk (below_drew1 HB.out)
 refine start_ (n := 14) (S := fun w' => w'.cell? ⟨gb609, 0, none⟩ = some (.int .i64 a0_0) ∧ w'.cell? ⟨gb609, 1, none⟩ = some (.slice A0_1 l0_1.length c0_1) ∧ w'.cell? ⟨gb609, 2, none⟩ = some (.slice A0_2 l0_2.length c0_2) ∧ w'.cell? ⟨gb609, 3, none⟩ = some (.slice A0_3 l0_3.length c0_3)) (ds := []) (bs 14 0) (by kernel_rfl) rfl rfl ⟨bc_ BK609 0, bc_ BK609 1, bc_ BK609 2, bc_ BK609 3⟩ (fun hHeld => ?_); refine with_tabW spec_SendOne.tab4 spec_SendOne.bits4 (fun HT_ HW_ => ?_)
 generalize w10.drew = w11 at BK609 HB hHeld ⊢
 refine pu_ 0 28 (bs 14 1) HT_ ?_
 refine pu_ 4 32 (bs 14 17) HT_ ?_
 refine pu_ 5 33 (bs 14 49) HT_ ?_
 refine tk_ 1 29 (bs 14 51) HT_ HW_ hHeld ?_
 refine tk_ 2 30 (bs 14 55) HT_ HW_ hHeld ?_
 refine on_ 3 (some 31) (bs 14 63) HT_ (fun K hK => ?_)
 refine goes_ Try.func54 (by kernel_rfl) rfl #[.agg #[.int .i64 a0_0, .slice A0_1 l0_1.length c0_1, .slice A0_2 l0_2.length c0_2, .slice A0_3 l0_3.length c0_3]] (by rfl) rfl rfl tm_ ?_
 with_reducible refine (spec_l17Up.calls k a0_0 _ _ l0_1 _ _ l0_2 _ _ l0_3 t613 _ ?side1 ?side2 ?side3 ?side4 ?side5 ?side6 A6.out).mono ?_
 (case side1 => exact cb_ HR0_1 HB)
 (case side2 => exact HC0_1.out)
 (case side3 => exact cb_ HR0_2 HB)
 (case side4 => exact HC0_2.out)
 (case side5 => exact cb_ HR0_3 HB)
 (case side6 => exact HC0_3.out)
 rintro e w12 ⟨v614, rfl, ho0, hb⟩
 refine ⟨_, rfl, ?_⟩
 have HO615 := Aside0.mk (Kd.R_lower ho0 (below_size (hB HB)))
 replace BK609 := bb_ BK609 hb
 replace HB := bst_ HB hb
 clear hb ho0
 obtain ⟨Ao13, co13, eo13⟩ := Kd.R_slice HO615.out
 subst eo13
 refine hK.out _ _ ⟨bc_ BK609 0, bc_ BK609 1, bc_ BK609 2, bc_ BK609 3⟩ (fun hHeld => ?_)
 clear hK K
 refine nm_ 31 ?_
 refine on_ 6 (some 34) (bs 14 127) HT_ (fun K hK => ?_)
 refine goes_ Try.func64 (by kernel_rfl) rfl #[.int .i64 a0_0, .slice Ao13 t613.length co13, .int .i64 t610, .int .i64 t611] (by rfl) rfl rfl tm_ ?_
 with_reducible refine (spec_WayTo.calls k a0_0 _ _ t613 t610 t611 t616 t617 t618 _ ?side1 ?side2 A7.out).mono ?_
 (case side1 => exact ca (Kd.R_reads' HO615.out).2.2)
 (case side2 => exact (Kd.R_reads' HO615.out).2.1)
 rintro e w14 ⟨v619, rfl, ho0, hb⟩
 refine ⟨_, rfl, ?_⟩
 have HO620 := Aside0.mk (Kd.R_lower ho0 (below_size (hB HB)))
 replace HO615 := rb_ HO615 hb
 replace BK609 := bb_ BK609 hb
 replace HB := bst_ HB hb
 clear hb ho0
 refine hK.out _ _ ⟨bc_ BK609 0, bc_ BK609 1, bc_ BK609 2, bc_ BK609 3⟩ (fun hHeld => ?_)
 clear hK K
 refine nm_ 34 ?_
 refine pu_ 7 27 (bs 14 255) HT_ ?_
 refine pu_ 8 35 (bs 14 511) HT_ ?_
 refine pu_ 9 36 (bs 14 1023) HT_ ?_
 refine pu_ 10 37 (bs 14 2047) HT_ ?_
 refine pu_ 11 12 (bs 14 4095) HT_ ?_
 refine pu_ 12 13 (bs 14 8191) HT_ ?_
 refine pu_ 13 14 (bs 14 16383) HT_ ?_
 refine done_ (done_of HT_.out (by kernel_rfl)) ?_
 try go_wp2
 go_loopg [15, 16] k (fun kq v15 v16 w' => ∃ (x15_1 : List (S95)) (x16_1 : Int), v16 = .int .i64 x16_1 ∧ Aside0 (spec_SendOne.l0 kq t616 t618 x15_1 x16_1 = some (r1, r2, r3)) ∧ Aside0 (kq ≤ k) ∧ Aside0 (Kd.R (Kd.int .i64) 3 w' w.heap.size (fun _ => True) v619 t616) ∧ Aside0 (Kd.R k95 95 w' w.heap.size (fun _ => True) v15 x15_1) ∧ Aside0 (w'.heap[gb609]? = some (.cells #[.int .i64 a0_0, (.slice A0_1 l0_1.length c0_1), (.slice A0_2 l0_2.length c0_2), (.slice A0_3 l0_3.length c0_3)] 33 (0, 0))) ∧ Aside0 (Below w.heap.size w w'))
 case atStart => exact ⟨(([] : List (S95))), (1), (by first | rfl | (simp; done) | (simp [*]; done)), H', ⟨Nat.le_refl _⟩, ⟨ra HO620.out⟩, ⟨by first | exact Kd.R_nil _ _ _ _ _ | exact Kd.N_nil _ _ _ _ _ | exact Kd.V_nil _ _ _ _ _ | exact Kd.Q_nil _ _ _ _ _ | exact Kd.S_nil _ _ _ _ _⟩, ⟨by (with_reducible repeat (first | refine blk_drewN ?_ _ | refine blk_drew ?_ | refine blk_alloc ?_ _)); exact BK609.out⟩, ⟨hB HB⟩⟩
 case round =>
  clear H'
  try clear c5
  try clear hcz9_0
  try clear hcz9_1
  try clear hcz9_2
  try clear hcz9_3
  try clear hfz9_0
  try clear hfz9_1
  try clear hfz9_2
  try clear hfz9_3
  obtain ⟨x15_1, x16_1, rfl, HA, HK1, HO_12, HO_15, BK609, HB⟩ := hrel
  cases gk with
  | zero => exact absurd HA.out (by simp [spec_SendOne.l0])
  | succ k1 =>
   have H := HA.out
   clear HA
   simp only [spec_SendOne.l0] at H
   by_cases c15 : x16_1 < (t616.length : Int)
   rotate_left
   ·rw [if_neg c15] at H
    have c15b0 : decide (x16_1 < (t616.length : Int)) = false := decide_eq_false c15
    clear c15
    simp only [Option.some.injEq, Prod.mk.injEq] at H
    obtain ⟨rfl, rfl, rfl⟩ := H
    obtain ⟨Ao24, co24, eo24⟩ := Kd.R_slice HO_12.out
    subst eo24
    go_wp2
    go_ret3
    exact ⟨_, rt_, ra HO_15.out, hB HB⟩
   rw [if_pos c15] at H
   have c15b0 : decide (x16_1 < (t616.length : Int)) = true := decide_eq_true c15
   clear c15
   obtain ⟨ji16, hji16⟩ : ∃ j_ : Int, (wrap64 (x16_1 - 1)) = j_ := ⟨_, rfl⟩
   replace H : (if 0 ≤ (ji16) then (if (ji16) < (t616.length : Int) then (if 0 ≤ x16_1 then (if x15_1.length < 8796093022208 then (spec_SendOne.l0 k1 t616 t618 (x15_1 ++ [(⟨rd t616 (ji16), rd t616 x16_1⟩ : S95)]) (wrap64 (x16_1 + 1))) else (none)) else (none)) else (none)) else (none)) = some (r1, r2, r3) := by first | (rw [hji16] at H; exact H) | (simp only [hji16] at H ⊢; exact H)
   have hji16w : (IntKind.i64.wrap (x16_1 - 1)) = ji16 := (i64_w _).trans hji16
   by_cases c17 : 0 ≤ (ji16)
   rotate_left
   ·rw [if_neg c17] at H
    exact absurd H (by simp)
   rw [if_pos c17] at H
   have c17b0 : decide (0 ≤ (ji16)) = true := decide_eq_true c17
   clear c17
   by_cases c18 : (ji16) < (t616.length : Int)
   rotate_left
   ·rw [if_neg c18] at H
    exact absurd H (by simp)
   rw [if_pos c18] at H
   have c18b0 : decide ((ji16) < (t616.length : Int)) = true := decide_eq_true c18
   clear c18
   by_cases c19 : 0 ≤ x16_1
   rotate_left
   ·rw [if_neg c19] at H
    exact absurd H (by simp)
   rw [if_pos c19] at H
   have c19b0 : decide (0 ≤ x16_1) = true := decide_eq_true c19
   clear c19
   by_cases c20 : x15_1.length < 8796093022208
   rotate_left
   ·rw [if_neg c20] at H
    exact absurd H (by simp)
   rw [if_pos c20] at H
   have LMc20 := Aside0.mk c20
   clear c20
   obtain ⟨y623, hy623⟩ : ∃ y_ : List (S95), y_ = (x15_1 ++ [(⟨rd t616 (ji16), rd t616 x16_1⟩ : S95)]) := ⟨_, rfl⟩
   replace H : (spec_SendOne.l0 k1 t616 t618 y623 (wrap64 (x16_1 + 1))) = some (r1, r2, r3) := by first | (rw [hy623]; with_reducible exact H) | (have H2_ := (Option.bind_some _ _).symm.trans H; rw [hy623]; with_reducible exact H2_) | (have H2_ := (Option.bind_some _ _).symm.trans H; with_reducible exact H2_) | with_reducible exact H | (rw [hy623]; exact H) | exact H
   have Ny623 := Aside0.mk hy623
   clear hy623
   have H' := Aside0.mk H
   clear H
   obtain ⟨Ao21, co21, eo21⟩ := Kd.R_slice HO_12.out
   subst eo21
   try go_wp2
   replace HO_12 := rd_ HO_12
   replace HO_15 := rd_ HO_15
   replace BK609 := bd_ BK609
   replace HB := Aside0.mk (below_drew1 HB.out)
   have p621 : 0 ≤ ((ji16) : Int) := od_
   have q621 : (ji16) < (t616.length : Int) := od_
   obtain ⟨ad621, e621, hx621_0⟩ := Kd.at_int (Kd.R_reads' HO_12.out).2.2 (ji16) p621 q621
   cases e621
   replace p621 := eq_true p621
   replace q621 := eq_true q621
   have p622 : 0 ≤ (x16_1 : Int) := od_
   have q622 : x16_1 < (t616.length : Int) := od_
   obtain ⟨ad622, e622, hx622_0⟩ := Kd.at_int (Kd.R_reads' HO_12.out).2.2 x16_1 p622 q622
   obtain rfl : ad621 = ad622 := (by injection e622)
   replace p622 := eq_true p622
   replace q622 := eq_true q622
   refine start_ (n := 14) (S := fun w' => w'.cell? (ad621.add ((ji16)).toNat) = some (.int .i64 (rd t616 (ji16))) ∧ w'.cell? (ad621.add (x16_1).toNat) = some (.int .i64 (rd t616 x16_1))) (ds := [11, 12]) (bs 14 0) (by kernel_rfl) rfl rfl ⟨hx621_0, hx622_0⟩ (fun hHeld => ?_); refine with_tabW spec_SendOne.tab9 spec_SendOne.bits9 (fun HT_ HW_ => ?_)
   generalize wr.drew = w22 at HO_12 HO_15 BK609 HB hx621_0 hx622_0 hHeld ⊢
   refine pu_ 0 44 (bs 14 1) HT_ ?_
   refine pu_ 1 45 (bs 14 3) HT_ ?_
   refine pu_ 2 46 (bs 14 7) HT_ ?_
   refine pu_ 3 47 (bs 14 15) HT_ ?_
   refine pu_ 4 48 (bs 14 31) HT_ ?_
   refine pu_ 6 50 (bs 14 95) HT_ ?_
   refine pu_ 7 51 (bs 14 223) HT_ ?_
   refine pu_ 8 52 (bs 14 479) HT_ ?_
   refine tk_ 5 49 (bs 14 511) HT_ HW_ hHeld ?_
   refine tk_ 9 53 (bs 14 1023) HT_ HW_ hHeld ?_
   refine pu_ 10 54 (bs 14 2047) HT_ ?_
   refine last_ (i := 11) (N := some 55) (bs 14 4095) rfl rfl (one_of HT_.out (by kernel_rfl)) (by decide) (fun K hK => ?_)
   refine value_ (w1 := ?_) (v := ?_) (by rfl) rfl ?_ ?_
   rotate_left 2
   ·go_simp
    constructor
    ·rfl
    ·rfl
   refine hK.out _ _ ?_
   clear hK K
   refine nm_ 55 ?_
   refine last_ (i := 12) (N := some 56) (bs 14 8191) rfl rfl (one_of HT_.out (by kernel_rfl)) (by decide) (fun K hK => ?_)
   refine Kd.R_append_step k95 (w0 := w) w.heap.size (by rfl) (.tmp 44) (.tmp 55) 43 95 (.agg #[(.int .i64 0), (.int .i64 0)]) 16 rfl Try.underlying43 info95 rfl (by decide) (by omega) u15 x15_1 (⟨rd t616 (ji16), rd t616 x16_1⟩ : S95) [.int .i64 (rd t616 (ji16)), .int .i64 (rd t616 x16_1)] (fun _ => True) (fun _ => False) rfl rfl ?aP (fun _ hk => hk.elim) ?aF ?aO ?aB ?aS ?aL ?_
   (case aP => exact k95_mkM _ _ _ (⟨rd t616 (ji16), rd t616 x16_1⟩ : S95))
   (case aB => exact (hB HB))
   (case aF => exact (fun _ _ => trivial))
   (case aO => exact (ra HO_15.out))
   (case aS => exact (below_size (hB HB)))
   (case aL => have := LMc20.out; omega)
   intro v624 w23 ho hb hg hat
   rw [← Ny623.out] at ho
   have HO625 := Aside0.mk (ho)
   replace HO_12 := Aside0.mk (Kd.R_over' (ra HO_12.out) (Kd.R_typed (ra HO_15.out)) (by decide) hg)
   replace BK609 := Aside0.mk (blk_grown (g := gb609) (o := .cells #[.int .i64 a0_0, .slice A0_1 l0_1.length c0_1, .slice A0_2 l0_2.length c0_2, .slice A0_3 l0_3.length c0_3] 33 (0, 0)) (ba BK609.out) hg (Kd.R_ne HO_15.out BK609.out (by decide)))
   replace HB := Aside0.mk (hb)
   clear HO_15
   clear ho hb hg hat
   refine hK.out _ _ ?_
   clear hK K
   refine nm_ 56 ?_
   refine pu_ 13 15 (bs 14 16383) HT_ ?_
   refine done_ (done_of HT_.out (by kernel_rfl)) ?_
   try go_wp2
   go_roundg k1
   case measure => have := HK1.out; omega
   case rel => exact ⟨(y623), (wrap64 (x16_1 + 1)), (by first | rfl | (simp; done) | (simp [*]; done)), H', ⟨by have := HK1.out; omega⟩, ⟨ra HO_12.out⟩, ⟨ra HO625.out⟩, ⟨by (with_reducible repeat (first | refine blk_drewN ?_ _ | refine blk_drew ?_ | refine blk_alloc ?_ _)); exact BK609.out⟩, ⟨hB HB⟩⟩

def laws_eqHop.f (a0_0 : Int) (a0_1 : Int) (a1_0 : Int) (a1_1 : Int) : Option (Bool) := if a0_0 = a1_0 then (if a0_1 = a1_1 then (some true) else (some false)) else (some false)
set_option maxHeartbeats 8000000 in
set_option maxRecDepth 100000 in
theorem laws_eqHop.calls (a0_0 : Int) (a0_1 : Int) (a1_0 : Int) (a1_1 : Int) (r : Bool) (w : World) (h : laws_eqHop.f a0_0 a0_1 a1_0 a1_1 = some r) :
  Calls Try.prog 67 #[.agg #[.int .i64 a0_0, .int .i64 a0_1], .agg #[.int .i64 a1_0, .int .i64 a1_1]] w fun e w' => e = .returned (.bool r) ∧ Below w.heap.size w w' := by
 have hu95 := Try.underlying95
 have HB := Aside0.mk (Below.refl w.heap.size w)
 have H : (if a0_0 = a1_0 then (if a0_1 = a1_1 then (some true) else (some false)) else (some false)) = some r := h
 clear h
 by_cases c3 : a0_0 = a1_0
 rotate_left
 ·rw [if_neg c3] at H
  have c3b0 : (a0_0 == a1_0) = false := beq_eq_false_iff_ne.mpr c3
  have c3b1 : (a0_0 != a1_0) = true := bne_iff_ne.mpr c3
  obtain rfl := Option.some.inj H
  go_enter Try.func67, Try.ntmps67
  go_wp2_with (first | ((with_reducible refine gate_dst (N := 2) rfl ?_); refine box_event ?hg (N := 2) ?hd (cs := #[.int .i64 a0_0, .int .i64 a0_1]) (t := 95) ?hr ?_; (case hd => rfl); (case hg => rfl); (case hr => first | (go_simp; done) | (go_simp; rfl)); intro gb626 hg w15 hbox hb; have BK626 := Aside0.mk (hbox); have GW626 := gw_ hg HB; have GE626 := gw_ hg HB; replace HB := bst_ HB hb; clear hb hbox hg) | ((with_reducible refine gate_dst (N := 3) rfl ?_); refine box_event ?hg (N := 3) ?hd (cs := #[.int .i64 a1_0, .int .i64 a1_1]) (t := 95) ?hr ?_; (case hd => rfl); (case hg => rfl); (case hr => first | (go_simp; done) | (go_simp; rfl)); intro gb627 hg w16 hbox hb; have BK627 := Aside0.mk (hbox); have GW627 := gw_ hg HB; have GE627 := gw_ hg HB; have NB626_627 := nl_ hg BK626; have NB627_626 := ng_ hg BK626; replace BK626 := bb_ BK626 hb; replace HB := bst_ HB hb; clear hb hbox hg; have hnb17 := NB626_627.out; have hnc17 := NB627_626.out; obtain ⟨hcz18_0, hcz18_1⟩ := bcs2_ BK626; obtain ⟨hcz19_0, hcz19_1⟩ := bcs2_ BK627))
  go_ret
  exact ⟨rt_, hB HB⟩
 rw [if_pos c3] at H
 have c3b0 : (a0_0 == a1_0) = true := beq_iff_eq.mpr c3
 have c3b1 : (a0_0 != a1_0) = false := bne_eq_false_iff_eq.mpr c3
 clear c3
 by_cases c4 : a0_1 = a1_1
 ·rw [if_pos c4] at H
  have c4b0 : (a0_1 == a1_1) = true := beq_iff_eq.mpr c4
  have c4b1 : (a0_1 != a1_1) = false := bne_eq_false_iff_eq.mpr c4
  clear c4
  obtain rfl := Option.some.inj H
  go_enter Try.func67, Try.ntmps67
  go_wp2_with (first | ((with_reducible refine gate_dst (N := 2) rfl ?_); refine box_event ?hg (N := 2) ?hd (cs := #[.int .i64 a0_0, .int .i64 a0_1]) (t := 95) ?hr ?_; (case hd => rfl); (case hg => rfl); (case hr => first | (go_simp; done) | (go_simp; rfl)); intro gb626 hg w5 hbox hb; have BK626 := Aside0.mk (hbox); have GW626 := gw_ hg HB; have GE626 := gw_ hg HB; replace HB := bst_ HB hb; clear hb hbox hg) | ((with_reducible refine gate_dst (N := 3) rfl ?_); refine box_event ?hg (N := 3) ?hd (cs := #[.int .i64 a1_0, .int .i64 a1_1]) (t := 95) ?hr ?_; (case hd => rfl); (case hg => rfl); (case hr => first | (go_simp; done) | (go_simp; rfl)); intro gb627 hg w6 hbox hb; have BK627 := Aside0.mk (hbox); have GW627 := gw_ hg HB; have GE627 := gw_ hg HB; have NB626_627 := nl_ hg BK626; have NB627_626 := ng_ hg BK626; replace BK626 := bb_ BK626 hb; replace HB := bst_ HB hb; clear hb hbox hg; have hnb7 := NB626_627.out; have hnc7 := NB627_626.out; obtain ⟨hcz8_0, hcz8_1⟩ := bcs2_ BK626; obtain ⟨hcz9_0, hcz9_1⟩ := bcs2_ BK627))
  go_ret
  exact ⟨rt_, hB HB⟩
 rw [if_neg c4] at H
 have c4b0 : (a0_1 == a1_1) = false := beq_eq_false_iff_ne.mpr c4
 have c4b1 : (a0_1 != a1_1) = true := bne_iff_ne.mpr c4
 obtain rfl := Option.some.inj H
 go_enter Try.func67, Try.ntmps67
 go_wp2_with (first | ((with_reducible refine gate_dst (N := 2) rfl ?_); refine box_event ?hg (N := 2) ?hd (cs := #[.int .i64 a0_0, .int .i64 a0_1]) (t := 95) ?hr ?_; (case hd => rfl); (case hg => rfl); (case hr => first | (go_simp; done) | (go_simp; rfl)); intro gb626 hg w10 hbox hb; have BK626 := Aside0.mk (hbox); have GW626 := gw_ hg HB; have GE626 := gw_ hg HB; replace HB := bst_ HB hb; clear hb hbox hg) | ((with_reducible refine gate_dst (N := 3) rfl ?_); refine box_event ?hg (N := 3) ?hd (cs := #[.int .i64 a1_0, .int .i64 a1_1]) (t := 95) ?hr ?_; (case hd => rfl); (case hg => rfl); (case hr => first | (go_simp; done) | (go_simp; rfl)); intro gb627 hg w11 hbox hb; have BK627 := Aside0.mk (hbox); have GW627 := gw_ hg HB; have GE627 := gw_ hg HB; have NB626_627 := nl_ hg BK626; have NB627_626 := ng_ hg BK626; replace BK626 := bb_ BK626 hb; replace HB := bst_ HB hb; clear hb hbox hg; have hnb12 := NB626_627.out; have hnc12 := NB627_626.out; obtain ⟨hcz13_0, hcz13_1⟩ := bcs2_ BK626; obtain ⟨hcz14_0, hcz14_1⟩ := bcs2_ BK627))
 go_ret
 exact ⟨rt_, hB HB⟩

def laws_eqHopS.l0 : Nat → List (S95) → List (S95) → Int → Option (Bool)
 | 0, _, _, _ => none
 | k + 1, x0, x1, x5 => if x5 < (x0.length : Int) then (if 0 ≤ x5 then (if x5 < (x1.length : Int) then ((laws_eqHop.f ((rd_T95 x0 x5).f0) ((rd_T95 x0 x5).f1) ((rd_T95 x1 x5).f0) ((rd_T95 x1 x5).f1)).bind fun t630 => (if t630 = true then (laws_eqHopS.l0 k x0 x1 (wrap64 (x5 + 1))) else (some false))) else (none)) else (none)) else (some true)
def laws_eqHopS.f (k : Nat) (l0 : List (S95)) (l1 : List (S95)) : Option (Bool) := if (l0.length : Int) = (l1.length : Int) then (laws_eqHopS.l0 k l0 l1 0) else (some false)
theorem laws_eqHopS.mono_l : ∀ k, (∀ y0 y1 y2, LeO (laws_eqHopS.l0 k y0 y1 y2) (laws_eqHopS.l0 (k + 1) y0 y1 y2))
 | 0 => fun _ _ _ r h => by simp [laws_eqHopS.l0] at h
 | k + 1 => by
  have ih0 := laws_eqHopS.mono_l k
  ·intro y0 y1 y2
   unfold laws_eqHopS.l0
   repeat' first
   | (with_reducible exact ih0 _ _ _)
   | with_reducible first | exact LeO.refl _ | exact LeO.none _ | refine LeO.ite ?_ ?_ | refine LeO.bind ?_ fun _ => ?_
theorem laws_eqHopS.mono : ∀ a0 a1 k, LeO (laws_eqHopS.f k a0 a1) (laws_eqHopS.f (k + 1) a0 a1) := by
 intro a0 a1 k
 have ih0 := laws_eqHopS.mono_l k
 unfold laws_eqHopS.f
 repeat' first
   | (with_reducible exact ih0 _ _ _)
   | with_reducible first | exact LeO.refl _ | exact LeO.none _ | refine LeO.ite ?_ ?_ | refine LeO.bind ?_ fun _ => ?_
def laws_eqHopS.T6 : Bool × List (List Nat × List Nat) := (true, [([], []), ([], []), ([0, 1], [0, 1]), ([2], [2]), ([], []), ([], []), ([4, 5], [4, 5]), ([6], [6]), ([3, 7], [3, 7]), ([8], [8])])
def laws_eqHopS.B6 : List Nat := [0, 0, 3, 7, 0, 0, 48, 112, 255, 511]
theorem laws_eqHopS.tab6 : rtab .any (opsOf Try.f24 6) = laws_eqHopS.T6 := by kernel_rfl
theorem laws_eqHopS.bits6 : waitsOk laws_eqHopS.T6.2 laws_eqHopS.B6 = true := by kernel_rfl
set_option maxHeartbeats 8000000 in
set_option maxRecDepth 100000 in
theorem laws_eqHopS.calls (k : Nat) (A0 : Option Addr) (c0 : Nat) (l0 : List (S95)) (A1 : Option Addr) (c1 : Nat) (l1 : List (S95)) (r : Bool) (w : World) (hr0 : Kd.C k95 w A0 l0.length l0) (hc0 : l0.length ≤ c0) (hr1 : Kd.C k95 w A1 l1.length l1) (hc1 : l1.length ≤ c1) (h : laws_eqHopS.f k l0 l1 = some r) :
  Calls Try.prog 24 #[.slice A0 l0.length c0, .slice A1 l1.length c1] w fun e w' => e = .returned (.bool r) ∧ Below w.heap.size w w' := by
 have hu95 := Try.underlying95
 have HR0 := Aside0.mk hr0
 have HC0 := Aside0.mk hc0
 clear hr0 hc0
 have HR1 := Aside0.mk hr1
 have HC1 := Aside0.mk hc1
 clear hr1 hc1
 have HB := Aside0.mk (Below.refl w.heap.size w)
 have H : (if (l0.length : Int) = (l1.length : Int) then (laws_eqHopS.l0 k l0 l1 0) else (some false)) = some r := h
 clear h
 by_cases c3 : (l0.length : Int) = (l1.length : Int)
 rotate_left
 ·rw [if_neg c3] at H
  have c3b0 : ((l0.length : Int) == (l1.length : Int)) = false := beq_eq_false_iff_ne.mpr c3
  have c3b1 : ((l0.length : Int) != (l1.length : Int)) = true := bne_iff_ne.mpr c3
  have c3b2 : (l0.length == l1.length) = false := by first | simpa using c3 | (simp at c3 ⊢; omega)
  obtain rfl := Option.some.inj H
  go_enter Try.func24, Try.ntmps24
  go_wp2
  go_ret
  exact ⟨rt_, hB HB⟩
 rw [if_pos c3] at H
 have c3b0 : ((l0.length : Int) == (l1.length : Int)) = true := beq_iff_eq.mpr c3
 have c3b1 : ((l0.length : Int) != (l1.length : Int)) = false := bne_eq_false_iff_eq.mpr c3
 have c3b2 : (l0.length == l1.length) = true := by first | simpa using c3 | (simp at c3 ⊢; omega)
 clear c3
 have H' := Aside0.mk H
 clear H
 go_enter Try.func24, Try.ntmps24
 go_wp2
 go_loopg [5] k (fun kq v5 w' => ∃ (x5_1 : Int), v5 = .int .i64 x5_1 ∧ Aside0 (laws_eqHopS.l0 kq l0 l1 x5_1 = some r) ∧ Aside0 (kq ≤ k) ∧ Aside0 (Below w.heap.size w w'))
 case atStart => exact ⟨(0), (by first | rfl | (simp; done) | (simp [*]; done)), H', ⟨Nat.le_refl _⟩, ⟨hB HB⟩⟩
 case round =>
  clear H'
  try clear c1
  try clear c3
  try clear c3b0
  try clear c3b1
  try clear c3b2
  obtain ⟨x5_1, rfl, HA, HK1, HB⟩ := hrel
  cases gk with
  | zero => exact absurd HA.out (by simp [laws_eqHopS.l0])
  | succ k1 =>
   have H := HA.out
   clear HA
   simp only [laws_eqHopS.l0] at H
   by_cases c4 : x5_1 < (l0.length : Int)
   rotate_left
   ·rw [if_neg c4] at H
    have c4b0 : decide (x5_1 < (l0.length : Int)) = false := decide_eq_false c4
    clear c4
    obtain rfl := Option.some.inj H
    go_wp2
    go_ret
    exact ⟨rt_, hB HB⟩
   rw [if_pos c4] at H
   have c4b0 : decide (x5_1 < (l0.length : Int)) = true := decide_eq_true c4
   clear c4
   by_cases c5 : 0 ≤ x5_1
   rotate_left
   ·rw [if_neg c5] at H
    exact absurd H (by simp)
   rw [if_pos c5] at H
   have c5b0 : decide (0 ≤ x5_1) = true := decide_eq_true c5
   clear c5
   by_cases c6 : x5_1 < (l1.length : Int)
   rotate_left
   ·rw [if_neg c6] at H
    exact absurd H (by simp)
   rw [if_pos c6] at H
   have c6b0 : decide (x5_1 < (l1.length : Int)) = true := decide_eq_true c6
   clear c6
   replace H := Option.bind_eq_some_iff.mp H
   obtain ⟨t630, A70, H⟩ := H
   replace H : (if t630 = true then (laws_eqHopS.l0 k1 l0 l1 (wrap64 (x5_1 + 1))) else (some false)) = some r := H
   have A7 := Aside0.mk A70
   clear A70
   by_cases c8 : t630 = true
   ·subst c8
    rw [if_pos rfl] at H
    have H' := Aside0.mk H
    clear H
    try go_wp2
    replace HB := Aside0.mk (below_drew1 HB.out)
    have p628 : 0 ≤ (x5_1 : Int) := od_
    have q628 : x5_1 < (l0.length : Int) := od_
    obtain ⟨ad628, e628, hx628_0, hx628_1⟩ := at_T95 HR0.out x5_1 p628 q628
    have hw628_1 := hx628_1
    have hw628_0 := hx628_0
    cases e628
    replace hx628_0 := hc_ HB hx628_0
    replace hx628_1 := hc_ HB hx628_1
    replace p628 := eq_true p628
    replace q628 := eq_true q628
    have p629 : 0 ≤ (x5_1 : Int) := od_
    have q629 : x5_1 < (l1.length : Int) := od_
    obtain ⟨ad629, e629, hx629_0, hx629_1⟩ := at_T95 HR1.out x5_1 p629 q629
    have hw629_1 := hx629_1
    have hw629_0 := hx629_0
    cases e629
    replace hx629_0 := hc_ HB hx629_0
    replace hx629_1 := hc_ HB hx629_1
    replace p629 := eq_true p629
    replace q629 := eq_true q629
    refine start_ (n := 10) (S := fun w' => w'.cell? (ad628.add ((x5_1).toNat * 2)) = some (.int .i64 ((rd_T95 l0 x5_1).f0)) ∧ w'.cell? ⟨(ad628.add ((x5_1).toNat * 2)).block, (ad628.add ((x5_1).toNat * 2)).off + 1, none⟩ = some (.int .i64 ((rd_T95 l0 x5_1).f1)) ∧ w'.cell? (ad629.add ((x5_1).toNat * 2)) = some (.int .i64 ((rd_T95 l1 x5_1).f0)) ∧ w'.cell? ⟨(ad629.add ((x5_1).toNat * 2)).block, (ad629.add ((x5_1).toNat * 2)).off + 1, none⟩ = some (.int .i64 ((rd_T95 l1 x5_1).f1))) (ds := []) (bs 10 0) (by kernel_rfl) rfl rfl ⟨((HB.out.cell (World.block_lt_of_cell? w _ hw628_0)).trans hw628_0), ((HB.out.cell (World.block_lt_of_cell? w _ hw628_1)).trans hw628_1), ((HB.out.cell (World.block_lt_of_cell? w _ hw629_0)).trans hw629_0), ((HB.out.cell (World.block_lt_of_cell? w _ hw629_1)).trans hw629_1)⟩ (fun hHeld => ?_); refine with_tabW laws_eqHopS.tab6 laws_eqHopS.bits6 (fun HT_ HW_ => ?_)
    generalize wr.drew = w9 at HB hx628_0 hx628_1 hx629_0 hx629_1 hHeld ⊢
    refine pu_ 0 17 (bs 10 1) HT_ ?_
    refine pu_ 1 18 (bs 10 3) HT_ ?_
    refine pu_ 2 19 (bs 10 7) HT_ ?_
    refine pu_ 4 21 (bs 10 23) HT_ ?_
    refine pu_ 5 22 (bs 10 55) HT_ ?_
    refine pu_ 6 23 (bs 10 119) HT_ ?_
    refine tk_ 3 20 (bs 10 127) HT_ HW_ hHeld ?_
    refine tk_ 7 24 (bs 10 255) HT_ HW_ hHeld ?_
    refine on_ 8 (some 25) (bs 10 511) HT_ (fun K hK => ?_)
    refine goes_ Try.func67 (by kernel_rfl) rfl #[.agg #[.int .i64 ((rd_T95 l0 x5_1).f0), .int .i64 ((rd_T95 l0 x5_1).f1)], .agg #[.int .i64 ((rd_T95 l1 x5_1).f0), .int .i64 ((rd_T95 l1 x5_1).f1)]] (by rfl) rfl rfl tm_ ?_
    with_reducible refine (laws_eqHop.calls ((rd_T95 l0 x5_1).f0) ((rd_T95 l0 x5_1).f1) ((rd_T95 l1 x5_1).f0) ((rd_T95 l1 x5_1).f1) true _ A7.out).mono ?_
    rintro e w10 ⟨rfl, hb⟩
    refine ⟨_, rfl, ?_⟩
    replace HB := bst_ HB hb
    clear hb
    refine hK.out _ _ ⟨((HB.out.cell (World.block_lt_of_cell? w _ hw628_0)).trans hw628_0), ((HB.out.cell (World.block_lt_of_cell? w _ hw628_1)).trans hw628_1), ((HB.out.cell (World.block_lt_of_cell? w _ hw629_0)).trans hw629_0), ((HB.out.cell (World.block_lt_of_cell? w _ hw629_1)).trans hw629_1)⟩ (fun hHeld => ?_)
    clear hK K
    refine nm_ 25 ?_
    refine pu_ 9 26 (bs 10 1023) HT_ ?_
    refine done_ (done_of HT_.out (by kernel_rfl)) ?_
    try go_wp2
    go_roundg k1
    case measure => have := HK1.out; omega
    case rel => exact ⟨(wrap64 (x5_1 + 1)), (by first | rfl | (simp; done) | (simp [*]; done)), H', ⟨by have := HK1.out; omega⟩, ⟨hB HB⟩⟩
   replace c8 := Bool.eq_false_iff.mpr c8
   subst c8
   rw [if_neg (show ¬ (false = true) by decide)] at H
   obtain rfl := Option.some.inj H
   try go_wp2
   replace HB := Aside0.mk (below_drew1 HB.out)
   have p628 : 0 ≤ (x5_1 : Int) := od_
   have q628 : x5_1 < (l0.length : Int) := od_
   obtain ⟨ad628, e628, hx628_0, hx628_1⟩ := at_T95 HR0.out x5_1 p628 q628
   have hw628_1 := hx628_1
   have hw628_0 := hx628_0
   cases e628
   replace hx628_0 := hc_ HB hx628_0
   replace hx628_1 := hc_ HB hx628_1
   replace p628 := eq_true p628
   replace q628 := eq_true q628
   have p629 : 0 ≤ (x5_1 : Int) := od_
   have q629 : x5_1 < (l1.length : Int) := od_
   obtain ⟨ad629, e629, hx629_0, hx629_1⟩ := at_T95 HR1.out x5_1 p629 q629
   have hw629_1 := hx629_1
   have hw629_0 := hx629_0
   cases e629
   replace hx629_0 := hc_ HB hx629_0
   replace hx629_1 := hc_ HB hx629_1
   replace p629 := eq_true p629
   replace q629 := eq_true q629
   refine start_ (n := 10) (S := fun w' => w'.cell? (ad628.add ((x5_1).toNat * 2)) = some (.int .i64 ((rd_T95 l0 x5_1).f0)) ∧ w'.cell? ⟨(ad628.add ((x5_1).toNat * 2)).block, (ad628.add ((x5_1).toNat * 2)).off + 1, none⟩ = some (.int .i64 ((rd_T95 l0 x5_1).f1)) ∧ w'.cell? (ad629.add ((x5_1).toNat * 2)) = some (.int .i64 ((rd_T95 l1 x5_1).f0)) ∧ w'.cell? ⟨(ad629.add ((x5_1).toNat * 2)).block, (ad629.add ((x5_1).toNat * 2)).off + 1, none⟩ = some (.int .i64 ((rd_T95 l1 x5_1).f1))) (ds := []) (bs 10 0) (by kernel_rfl) rfl rfl ⟨((HB.out.cell (World.block_lt_of_cell? w _ hw628_0)).trans hw628_0), ((HB.out.cell (World.block_lt_of_cell? w _ hw628_1)).trans hw628_1), ((HB.out.cell (World.block_lt_of_cell? w _ hw629_0)).trans hw629_0), ((HB.out.cell (World.block_lt_of_cell? w _ hw629_1)).trans hw629_1)⟩ (fun hHeld => ?_); refine with_tabW laws_eqHopS.tab6 laws_eqHopS.bits6 (fun HT_ HW_ => ?_)
   generalize wr.drew = w11 at HB hx628_0 hx628_1 hx629_0 hx629_1 hHeld ⊢
   refine pu_ 0 17 (bs 10 1) HT_ ?_
   refine pu_ 1 18 (bs 10 3) HT_ ?_
   refine pu_ 2 19 (bs 10 7) HT_ ?_
   refine pu_ 4 21 (bs 10 23) HT_ ?_
   refine pu_ 5 22 (bs 10 55) HT_ ?_
   refine pu_ 6 23 (bs 10 119) HT_ ?_
   refine tk_ 3 20 (bs 10 127) HT_ HW_ hHeld ?_
   refine tk_ 7 24 (bs 10 255) HT_ HW_ hHeld ?_
   refine on_ 8 (some 25) (bs 10 511) HT_ (fun K hK => ?_)
   refine goes_ Try.func67 (by kernel_rfl) rfl #[.agg #[.int .i64 ((rd_T95 l0 x5_1).f0), .int .i64 ((rd_T95 l0 x5_1).f1)], .agg #[.int .i64 ((rd_T95 l1 x5_1).f0), .int .i64 ((rd_T95 l1 x5_1).f1)]] (by rfl) rfl rfl tm_ ?_
   with_reducible refine (laws_eqHop.calls ((rd_T95 l0 x5_1).f0) ((rd_T95 l0 x5_1).f1) ((rd_T95 l1 x5_1).f0) ((rd_T95 l1 x5_1).f1) false _ A7.out).mono ?_
   rintro e w12 ⟨rfl, hb⟩
   refine ⟨_, rfl, ?_⟩
   replace HB := bst_ HB hb
   clear hb
   refine hK.out _ _ ⟨((HB.out.cell (World.block_lt_of_cell? w _ hw628_0)).trans hw628_0), ((HB.out.cell (World.block_lt_of_cell? w _ hw628_1)).trans hw628_1), ((HB.out.cell (World.block_lt_of_cell? w _ hw629_0)).trans hw629_0), ((HB.out.cell (World.block_lt_of_cell? w _ hw629_1)).trans hw629_1)⟩ (fun hHeld => ?_)
   clear hK K
   refine nm_ 25 ?_
   refine pu_ 9 26 (bs 10 1023) HT_ ?_
   refine done_ (done_of HT_.out (by kernel_rfl)) ?_
   try go_wp2
   go_ret
   exact ⟨rt_, hB HB⟩

def laws_markHopS.l0 : Nat → List (S95) → Int → Int → Option (Int × (List (S95)))
 | 0, _, _, _ => none
 | k + 1, x0, x1, x5 => if x5 < (x0.length : Int) then (if 0 ≤ x5 then ((some (x0.set (x5 : Int).toNat (⟨x1, (rd_T95 x0 x5).f1⟩ : S95) : List (S95))).bind fun y631 => (laws_markHopS.l0 k (y631.set (x5 : Int).toNat (⟨(rd_T95 y631 x5).f0, wrap64 (x1 + 1)⟩ : S95)) (wrap64 ((wrap64 (x1 + 1)) + 1)) (wrap64 (x5 + 1)))) else (none)) else (some (x1, x0))
def laws_markHopS.f (k : Nat) (l0 : List (S95)) (a1 : Int) : Option (Int × (List (S95))) := laws_markHopS.l0 k l0 a1 0
theorem laws_markHopS.mono_l : ∀ k, (∀ y0 y1 y2, LeO (laws_markHopS.l0 k y0 y1 y2) (laws_markHopS.l0 (k + 1) y0 y1 y2))
 | 0 => fun _ _ _ r h => by simp [laws_markHopS.l0] at h
 | k + 1 => by
  have ih0 := laws_markHopS.mono_l k
  ·intro y0 y1 y2
   unfold laws_markHopS.l0
   repeat' first
   | (with_reducible exact ih0 _ _ _)
   | with_reducible first | exact LeO.refl _ | exact LeO.none _ | refine LeO.ite ?_ ?_ | refine LeO.bind ?_ fun _ => ?_
theorem laws_markHopS.mono : ∀ a0 a1 k, LeO (laws_markHopS.f k a0 a1) (laws_markHopS.f (k + 1) a0 a1) := by
 intro a0 a1 k
 have ih0 := laws_markHopS.mono_l k
 unfold laws_markHopS.f
 repeat' first
   | (with_reducible exact ih0 _ _ _)
   | with_reducible first | exact LeO.refl _ | exact LeO.none _ | refine LeO.ite ?_ ?_ | refine LeO.bind ?_ fun _ => ?_
set_option maxHeartbeats 8000000 in
set_option maxRecDepth 100000 in
theorem laws_markHopS.calls (k : Nat) (P0_ : Nat → Prop) (u9000_ : Value) (l0 : List (S95)) (a1 : Int) (r1 : Int) (r2 : List (S95)) (w0 w : World) (hB : Below w0.heap.size w0 w) (ho0 : Kd.R k95 95 w w0.heap.size P0_ u9000_ l0) (h : laws_markHopS.f k l0 a1 = some (r1, r2)) :
  Calls Try.prog 25 #[u9000_, .int .i64 a1] w fun e w' => e = .returned (.int .i64 r1) ∧ Kd.R k95 95 w' w0.heap.size (fun k_ => (P0_ k_ ∨ w.heap.size ≤ k_)) u9000_ r2 ∧ Below w0.heap.size w0 w' ∧ Kept w w' (fun k_ => P0_ k_) := by
 have HO0 := Aside0.mk (show Kd.R k95 95 w w0.heap.size (fun k_ => (P0_ k_ ∨ w.heap.size ≤ k_)) u9000_ l0 from Kd.R_mono ho0 (fun k_ hk => (.inl hk)))
 have HK := Aside0.mk (Kept.refl w (fun k_ => P0_ k_))
 have HW0 := Aside0.mk hB.size
 have HB := Aside0.mk hB
 clear hB
 have H : (laws_markHopS.l0 k l0 a1 0) = some (r1, r2) := h
 clear h
 have H' := Aside0.mk H
 clear H
 go_enter Try.func25, Try.ntmps25
 go_wp2
 go_loopg [1, 5] k (fun kq v1 v5 w' => ∃ (x0_1 : List (S95)) (x1_1 : Int) (x5_1 : Int), v1 = .int .i64 x1_1 ∧ v5 = .int .i64 x5_1 ∧ Aside0 (laws_markHopS.l0 kq x0_1 x1_1 x5_1 = some (r1, r2)) ∧ Aside0 (kq ≤ k) ∧ Aside0 (Kd.R k95 95 w' w0.heap.size (fun k_ => (P0_ k_ ∨ w.heap.size ≤ k_)) u9000_ x0_1) ∧ Aside0 (Kept w w' (fun k_ => P0_ k_)) ∧ Aside0 (Below w0.heap.size w0 w'))
 case atStart => exact ⟨(l0), (a1), (0), (by first | rfl | (simp; done) | (simp [*]; done)), (by first | rfl | (simp; done) | (simp [*]; done)), H', ⟨Nat.le_refl _⟩, ⟨ra HO0.out⟩, ⟨hk_ HK⟩, ⟨hB HB⟩⟩
 case round =>
  clear H'
  obtain ⟨x0_1, x1_1, x5_1, rfl, rfl, HA, HK1, HO_0, HK, HB⟩ := hrel
  cases gk with
  | zero => exact absurd HA.out (by simp [laws_markHopS.l0])
  | succ k1 =>
   have H := HA.out
   clear HA
   simp only [laws_markHopS.l0] at H
   by_cases c3 : x5_1 < (x0_1.length : Int)
   rotate_left
   ·rw [if_neg c3] at H
    have c3b0 : decide (x5_1 < (x0_1.length : Int)) = false := decide_eq_false c3
    clear c3
    simp only [Option.some.injEq, Prod.mk.injEq] at H
    obtain ⟨rfl, rfl⟩ := H
    obtain ⟨Ao12, co12, eo12⟩ := Kd.R_slice HO_0.out
    subst eo12
    go_wp2
    go_ret
    exact ⟨rt_, ra HO_0.out, hB HB, hk_ HK⟩
   rw [if_pos c3] at H
   have c3b0 : decide (x5_1 < (x0_1.length : Int)) = true := decide_eq_true c3
   clear c3
   by_cases c4 : 0 ≤ x5_1
   rotate_left
   ·rw [if_neg c4] at H
    exact absurd H (by simp)
   rw [if_pos c4] at H
   have c4b0 : decide (0 ≤ x5_1) = true := decide_eq_true c4
   clear c4
   obtain ⟨y631, hy631⟩ : ∃ y_ : List (S95), y_ = (x0_1.set (x5_1 : Int).toNat (⟨x1_1, (rd_T95 x0_1 x5_1).f1⟩ : S95)) := ⟨_, rfl⟩
   replace H : (laws_markHopS.l0 k1 (y631.set (x5_1 : Int).toNat (⟨(rd_T95 y631 x5_1).f0, wrap64 (x1_1 + 1)⟩ : S95)) (wrap64 ((wrap64 (x1_1 + 1)) + 1)) (wrap64 (x5_1 + 1))) = some (r1, r2) := by first | (rw [hy631]; with_reducible exact H) | (have H2_ := (Option.bind_some _ _).symm.trans H; rw [hy631]; with_reducible exact H2_) | (have H2_ := (Option.bind_some _ _).symm.trans H; with_reducible exact H2_) | with_reducible exact H | (rw [hy631]; exact H) | exact H
   have Ny631 := Aside0.mk hy631
   clear hy631
   obtain ⟨y632, hy632⟩ : ∃ y_ : List (S95), y_ = (y631.set (x5_1 : Int).toNat (⟨(rd_T95 y631 x5_1).f0, wrap64 (x1_1 + 1)⟩ : S95)) := ⟨_, rfl⟩
   replace H : (laws_markHopS.l0 k1 y632 (wrap64 ((wrap64 (x1_1 + 1)) + 1)) (wrap64 (x5_1 + 1))) = some (r1, r2) := by first | (rw [hy632]; with_reducible exact H) | (have H2_ := (Option.bind_some _ _).symm.trans H; rw [hy632]; with_reducible exact H2_) | (have H2_ := (Option.bind_some _ _).symm.trans H; with_reducible exact H2_) | with_reducible exact H | (rw [hy632]; exact H) | exact H
   have Ny632 := Aside0.mk hy632
   clear hy632
   have H' := Aside0.mk H
   clear H
   obtain ⟨Ao7, co7, eo7⟩ := Kd.R_slice HO_0.out
   subst eo7
   have p5 : 0 ≤ (x5_1 : Int) := od_
   have q5 : (x5_1 : Int) < ((x0_1.length : Int) : Int) := od_
   obtain ⟨go5, co5, eo5, gb5, gl5, cl5, HG5⟩ := Kd.R_form HO_0.out (by omega)
   (first | cases eo5 | (injection eo5 with ea_ en_ ec_; (first | subst ea_ | (injection ea_ with ea_; subst ea_)); subst ec_; clear en_))
   have GB5 := Aside0.mk gb5
   have GG5 := Aside0.mk HG5
   clear gb5 gl5 HG5
   have HMgo5 := Aside0.mk (show (P0_ go5 ∨ w.heap.size ≤ go5) from (HO_0.out.1 _ rfl))
   obtain ⟨ce5, hcl5, hM5, hcc5, hfr5⟩ := Kd.R_elem HO_0.out z95 (x5_1 : Int) p5 q5
   obtain rfl := k95_openM hM5
   have hx5_0 : wr.cell? ⟨go5, (x5_1 : Int).toNat * 2, none⟩ = some (.int .i64 ((rd_T95 x0_1 x5_1).f0)) := hcc5 0 _ rfl
   have hx5_1 : wr.cell? ⟨go5, (x5_1 : Int).toNat * 2 + 1, none⟩ = some (.int .i64 ((rd_T95 x0_1 x5_1).f1)) := hcc5 1 _ rfl
   have hf5_0 : wr.frozen? ⟨go5, (x5_1 : Int).toNat * 2, none⟩ = false := hfr5 0
   have hf5_1 : wr.frozen? ⟨go5, (x5_1 : Int).toNat * 2 + 1, none⟩ = false := hfr5 1
   clear hcl5 hcc5 hfr5 hM5
   replace p5 := eq_true p5
   replace q5 := eq_true q5
   have HX8 := Aside0.mk (show Kd.R k95 95 wr w0.heap.size (fun k_ => (P0_ k_ ∨ w.heap.size ≤ k_)) (.slice (some ⟨go5, 0, none⟩) x0_1.length co7) x0_1 from (ra HO_0.out))
   obtain ⟨ce8, hcl8, hM8, hcc8, hfr8⟩ := Kd.R_elem HX8.out z95 (x5_1 : Int) (od_) (by have h_ : (x5_1 : Int) < ((x0_1.length : Int) : Int) := od_; first | exact h_ | (have e_ := (Kd.R_reads' HO_0.out).1; omega) | simpa using h_)
   obtain rfl := k95_openM hM8
   have HP8 := Kd.R_seg HX8.out (x5_1 : Int) (od_) (by have h_ : (x5_1 : Int) < ((x0_1.length : Int) : Int) := od_; first | exact h_ | (have e_ := (Kd.R_reads' HO_0.out).1; omega) | simpa using h_) (seg := [.int .i64 x1_1]) (j := 0) hcl8 hcc8 (show 1 ≤ 2 from by decide) (x' := (⟨x1_1, (rd_T95 x0_1 x5_1).f1⟩ : S95)) (k95_mkM _ _ _ (⟨x1_1, (rd_T95 x0_1 x5_1).f1⟩ : S95) ) (fun _ hk => hk)
   have hx8_0 := hcc8 0 _ rfl
   (try simp only [show (k95).sz = 2 from rfl, Nat.mul_one, Nat.add_zero] at hx8_0)
   have hf8_0 := hfr8 0
   (try simp only [show (k95).sz = 2 from rfl, Nat.mul_one, Nat.add_zero] at hf8_0)
   clear hcl8 hcc8 hfr8 hM8
   go_wp2_with (first | ((with_reducible refine gate_store (t := 3) (p := 16) rfl ?_); refine store_event (t := 3) (p := 16) (v := ?vo_w9) (w1 := (wr.setCell ⟨go5, (x5_1 : Int).toNat * 2, none⟩ (.int .i64 x1_1))) ?hg ?ho ?hn ?hr ?_; (case ho => rfl); (case hg => rfl); (case hn => rfl); (case hr => first | (go_simp; done) | (go_simp; rfl)); intro w9 hw; have hg : wr.grownBy w9 (some go5) := (by rw [hw]; exact HP8.2); have hp_ : Kd.R k95 95 w9 w0.heap.size (fun k_ => (P0_ k_ ∨ w.heap.size ≤ k_)) (.slice (some ⟨go5, 0, none⟩) x0_1.length co7) y631 := (by rw [hw, Ny631.out]; exact HP8.1); clear HP8; replace HB := Aside0.mk ((by rw [hw]; exact below_set (HB.out) GB5.out : Below w0.heap.size w0 w9)); replace HK := Aside0.mk (Kept.of_grown (S := (fun k_ => P0_ k_)) hg (hk_ HK) (fun k_ e_ => (HO_0.out.1 k_ e_))); replace HO_0 := Aside0.mk (hp_); clear hg hw hp_; have p6 : 0 ≤ (x5_1 : Int) := od_; have q6 : (x5_1 : Int) < ((x0_1.length : Int) : Int) := od_; obtain ⟨ce6, hcl6, hM6, hcc6, hfr6⟩ := Kd.R_elem HO_0.out z95 (x5_1 : Int) p6 q6; obtain rfl := k95_openM hM6; have hx6_0 : w9.cell? ⟨go5, (x5_1 : Int).toNat * 2, none⟩ = some (.int .i64 ((rd_T95 y631 x5_1).f0)) := hcc6 0 _ rfl; have hx6_1 : w9.cell? ⟨go5, (x5_1 : Int).toNat * 2 + 1, none⟩ = some (.int .i64 ((rd_T95 y631 x5_1).f1)) := hcc6 1 _ rfl; have hf6_0 : w9.frozen? ⟨go5, (x5_1 : Int).toNat * 2, none⟩ = false := hfr6 0; have hf6_1 : w9.frozen? ⟨go5, (x5_1 : Int).toNat * 2 + 1, none⟩ = false := hfr6 1; clear hcl6 hcc6 hfr6 hM6; replace p6 := eq_true p6; replace q6 := eq_true q6; have HX10 := Aside0.mk (show Kd.R k95 95 w9 w0.heap.size (fun k_ => (P0_ k_ ∨ w.heap.size ≤ k_)) (.slice (some ⟨go5, 0, none⟩) x0_1.length co7) y631 from (ra HO_0.out)); obtain ⟨ce10, hcl10, hM10, hcc10, hfr10⟩ := Kd.R_elem HX10.out z95 (x5_1 : Int) (od_) (by have h_ : (x5_1 : Int) < ((x0_1.length : Int) : Int) := od_; first | exact h_ | (have e_ := (Kd.R_reads' HO_0.out).1; omega) | simpa using h_); obtain rfl := k95_openM hM10; have HP10 := Kd.R_seg HX10.out (x5_1 : Int) (od_) (by have h_ : (x5_1 : Int) < ((x0_1.length : Int) : Int) := od_; first | exact h_ | (have e_ := (Kd.R_reads' HO_0.out).1; omega) | simpa using h_) (seg := [.int .i64 (wrap64 (x1_1 + 1))]) (j := 1) hcl10 hcc10 (show 2 ≤ 2 from by decide) (x' := (⟨(rd_T95 y631 x5_1).f0, wrap64 (x1_1 + 1)⟩ : S95)) (k95_mkM _ _ _ (⟨(rd_T95 y631 x5_1).f0, wrap64 (x1_1 + 1)⟩ : S95) ) (fun _ hk => hk); have hx10_1 := hcc10 1 _ rfl; (try simp only [show (k95).sz = 2 from rfl, Nat.mul_one, Nat.add_zero] at hx10_1); have hf10_1 := hfr10 1; (try simp only [show (k95).sz = 2 from rfl, Nat.mul_one, Nat.add_zero] at hf10_1); clear hcl10 hcc10 hfr10 hM10) | ((with_reducible refine gate_store (t := 3) (p := 23) rfl ?_); refine store_event (t := 3) (p := 23) (v := ?vo_w11) (w1 := (w9.setCell ⟨go5, (x5_1 : Int).toNat * 2 + 1, none⟩ (.int .i64 (wrap64 (x1_1 + 1))))) ?hg ?ho ?hn ?hr ?_; (case ho => rfl); (case hg => rfl); (case hn => rfl); (case hr => first | (go_simp; done) | (go_simp; rfl)); intro w11 hw; have hg : w9.grownBy w11 (some go5) := (by rw [hw]; exact HP10.2); have hp_ : Kd.R k95 95 w11 w0.heap.size (fun k_ => (P0_ k_ ∨ w.heap.size ≤ k_)) (.slice (some ⟨go5, 0, none⟩) x0_1.length co7) y632 := (by rw [hw, Ny632.out]; exact HP10.1); clear HP10; replace HB := Aside0.mk ((by rw [hw]; exact below_set (HB.out) GB5.out : Below w0.heap.size w0 w11)); replace HK := Aside0.mk (Kept.of_grown (S := (fun k_ => P0_ k_)) hg (hk_ HK) (fun k_ e_ => (HO_0.out.1 k_ e_))); replace HO_0 := Aside0.mk (hp_); clear hg hw hp_))
   go_roundg k1
   case measure => have := HK1.out; omega
   case rel => exact ⟨(y632), (wrap64 ((wrap64 (x1_1 + 1)) + 1)), (wrap64 (x5_1 + 1)), (by first | rfl | (simp; done) | (simp [*]; done)), (by first | rfl | (simp; done) | (simp [*]; done)), H', ⟨by have := HK1.out; omega⟩, ⟨ra HO_0.out⟩, ⟨hk_ HK⟩, ⟨hB HB⟩⟩

def laws_heldHopS.l0 : Nat → List (S95) → Int → Int → Option (Int)
 | 0, _, _, _ => none
 | k + 1, x0, x1, x5 => if x5 < (x0.length : Int) then (if 0 ≤ x5 then (if ((rd_T95 x0 x5).f0) = x1 then (if ((rd_T95 x0 x5).f1) = (wrap64 (x1 + 1)) then (laws_heldHopS.l0 k x0 (wrap64 ((wrap64 (x1 + 1)) + 1)) (wrap64 (x5 + 1))) else (some (-1))) else (some (-1))) else (none)) else (some x1)
def laws_heldHopS.f (k : Nat) (l0 : List (S95)) (a1 : Int) : Option (Int) := laws_heldHopS.l0 k l0 a1 0
theorem laws_heldHopS.mono_l : ∀ k, (∀ y0 y1 y2, LeO (laws_heldHopS.l0 k y0 y1 y2) (laws_heldHopS.l0 (k + 1) y0 y1 y2))
 | 0 => fun _ _ _ r h => by simp [laws_heldHopS.l0] at h
 | k + 1 => by
  have ih0 := laws_heldHopS.mono_l k
  ·intro y0 y1 y2
   unfold laws_heldHopS.l0
   repeat' first
   | (with_reducible exact ih0 _ _ _)
   | with_reducible first | exact LeO.refl _ | exact LeO.none _ | refine LeO.ite ?_ ?_ | refine LeO.bind ?_ fun _ => ?_
theorem laws_heldHopS.mono : ∀ a0 a1 k, LeO (laws_heldHopS.f k a0 a1) (laws_heldHopS.f (k + 1) a0 a1) := by
 intro a0 a1 k
 have ih0 := laws_heldHopS.mono_l k
 unfold laws_heldHopS.f
 repeat' first
   | (with_reducible exact ih0 _ _ _)
   | with_reducible first | exact LeO.refl _ | exact LeO.none _ | refine LeO.ite ?_ ?_ | refine LeO.bind ?_ fun _ => ?_
set_option maxHeartbeats 8000000 in
set_option maxRecDepth 100000 in
theorem laws_heldHopS.calls (k : Nat) (A0 : Option Addr) (c0 : Nat) (l0 : List (S95)) (a1 : Int) (r : Int) (w : World) (hr0 : Kd.C k95 w A0 l0.length l0) (hc0 : l0.length ≤ c0) (h : laws_heldHopS.f k l0 a1 = some r) :
  Calls Try.prog 26 #[.slice A0 l0.length c0, .int .i64 a1] w fun e w' => e = .returned (.int .i64 r) ∧ Drawn0 w w' := by
 have HR0 := Aside0.mk hr0
 have HC0 := Aside0.mk hc0
 clear hr0 hc0
 have H : (laws_heldHopS.l0 k l0 a1 0) = some r := h
 clear h
 have H' := Aside0.mk H
 clear H
 go_enter Try.func26, Try.ntmps26
 go_wp2
 go_loopg [1, 5] k (fun kq v1 v5 w' => ∃ (x1_1 : Int) (x5_1 : Int), v1 = .int .i64 x1_1 ∧ v5 = .int .i64 x5_1 ∧ Aside0 (laws_heldHopS.l0 kq l0 x1_1 x5_1 = some r) ∧ Aside0 (kq ≤ k) ∧ Drawn0 w w')
 case atStart => exact ⟨(a1), (0), (by first | rfl | (simp; done) | (simp [*]; done)), (by first | rfl | (simp; done) | (simp [*]; done)), H', ⟨Nat.le_refl _⟩, by repeat (first | exact Drawn0.refl _ | apply Drawn0.step)⟩
 case round =>
  clear H'
  obtain ⟨x1_1, x5_1, rfl, rfl, HA, HK1, ⟨m1, rfl⟩⟩ := hrel
  cases gk with
  | zero => exact absurd HA.out (by simp [laws_heldHopS.l0])
  | succ k1 =>
   have H := HA.out
   clear HA
   simp only [laws_heldHopS.l0] at H
   by_cases c3 : x5_1 < (l0.length : Int)
   rotate_left
   ·rw [if_neg c3] at H
    have c3b0 : decide (x5_1 < (l0.length : Int)) = false := decide_eq_false c3
    clear c3
    obtain rfl := Option.some.inj H
    go_wp2
    go_ret
    exact ⟨by first | rfl | (simp; done) | (simp [*]; done), by repeat (first | exact Drawn0.refl _ | apply Drawn0.step)⟩
   rw [if_pos c3] at H
   have c3b0 : decide (x5_1 < (l0.length : Int)) = true := decide_eq_true c3
   clear c3
   by_cases c4 : 0 ≤ x5_1
   rotate_left
   ·rw [if_neg c4] at H
    exact absurd H (by simp)
   rw [if_pos c4] at H
   have c4b0 : decide (0 ≤ x5_1) = true := decide_eq_true c4
   clear c4
   by_cases c5 : ((rd_T95 l0 x5_1).f0) = x1_1
   rotate_left
   ·rw [if_neg c5] at H
    have c5b0 : (((rd_T95 l0 x5_1).f0) == x1_1) = false := beq_eq_false_iff_ne.mpr c5
    have c5b1 : (((rd_T95 l0 x5_1).f0) != x1_1) = true := bne_iff_ne.mpr c5
    obtain rfl := Option.some.inj H
    have p633 : 0 ≤ (x5_1 : Int) := od_
    have q633 : x5_1 < (l0.length : Int) := od_
    obtain ⟨ad633, e633, hx633_0, hx633_1⟩ := at_T95 HR0.out x5_1 p633 q633
    cases e633
    replace p633 := eq_true p633
    replace q633 := eq_true q633
    go_wp2
    go_ret
    exact ⟨by first | rfl | (simp; done) | (simp [*]; done), by repeat (first | exact Drawn0.refl _ | apply Drawn0.step)⟩
   rw [if_pos c5] at H
   have c5b0 : (((rd_T95 l0 x5_1).f0) == x1_1) = true := beq_iff_eq.mpr c5
   have c5b1 : (((rd_T95 l0 x5_1).f0) != x1_1) = false := bne_eq_false_iff_eq.mpr c5
   clear c5
   by_cases c6 : ((rd_T95 l0 x5_1).f1) = (wrap64 (x1_1 + 1))
   rotate_left
   ·rw [if_neg c6] at H
    have c6b0 : (((rd_T95 l0 x5_1).f1) == (wrap64 (x1_1 + 1))) = false := beq_eq_false_iff_ne.mpr c6
    have c6b1 : (((rd_T95 l0 x5_1).f1) != (wrap64 (x1_1 + 1))) = true := bne_iff_ne.mpr c6
    obtain rfl := Option.some.inj H
    have p633 : 0 ≤ (x5_1 : Int) := od_
    have q633 : x5_1 < (l0.length : Int) := od_
    obtain ⟨ad633, e633, hx633_0, hx633_1⟩ := at_T95 HR0.out x5_1 p633 q633
    cases e633
    replace p633 := eq_true p633
    replace q633 := eq_true q633
    have p634 : 0 ≤ (x5_1 : Int) := od_
    have q634 : x5_1 < (l0.length : Int) := od_
    obtain ⟨ad634, e634, hx634_0, hx634_1⟩ := at_T95 HR0.out x5_1 p634 q634
    obtain rfl : ad633 = ad634 := (by injection e634)
    replace p634 := eq_true p634
    replace q634 := eq_true q634
    go_wp2
    go_ret
    exact ⟨by first | rfl | (simp; done) | (simp [*]; done), by repeat (first | exact Drawn0.refl _ | apply Drawn0.step)⟩
   rw [if_pos c6] at H
   have c6b0 : (((rd_T95 l0 x5_1).f1) == (wrap64 (x1_1 + 1))) = true := beq_iff_eq.mpr c6
   have c6b1 : (((rd_T95 l0 x5_1).f1) != (wrap64 (x1_1 + 1))) = false := bne_eq_false_iff_eq.mpr c6
   clear c6
   have H' := Aside0.mk H
   clear H
   have p633 : 0 ≤ (x5_1 : Int) := od_
   have q633 : x5_1 < (l0.length : Int) := od_
   obtain ⟨ad633, e633, hx633_0, hx633_1⟩ := at_T95 HR0.out x5_1 p633 q633
   cases e633
   replace p633 := eq_true p633
   replace q633 := eq_true q633
   have p634 : 0 ≤ (x5_1 : Int) := od_
   have q634 : x5_1 < (l0.length : Int) := od_
   obtain ⟨ad634, e634, hx634_0, hx634_1⟩ := at_T95 HR0.out x5_1 p634 q634
   obtain rfl : ad633 = ad634 := (by injection e634)
   replace p634 := eq_true p634
   replace q634 := eq_true q634
   go_wp2
   go_roundg k1
   case measure => have := HK1.out; omega
   case rel => exact ⟨(wrap64 ((wrap64 (x1_1 + 1)) + 1)), (wrap64 (x5_1 + 1)), (by first | rfl | (simp; done) | (simp [*]; done)), (by first | rfl | (simp; done) | (simp [*]; done)), H', ⟨by have := HK1.out; omega⟩, by repeat (first | exact Drawn0.refl _ | apply Drawn0.step)⟩

end Go.Proofs.Ytpohlcjkabojcaa.P
