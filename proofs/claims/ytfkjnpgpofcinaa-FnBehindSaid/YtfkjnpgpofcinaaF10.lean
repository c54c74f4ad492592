import Derived.Shelf.Spec.SlicesInsert
import Derived.Shelf.Spec.SlicesInsertGrow
import Derived.Shelf.RegionOpenPlain
import Derived.Deep.RegionLaw
import Derived.Lib.SliceRun
import Derived.Sort.WalkB12
import Derived.Test.YtfkjnpgpofcinaaF0
import Derived.Test.YtfkjnpgpofcinaaF1
import Derived.Test.YtfkjnpgpofcinaaF2
import Derived.Test.YtfkjnpgpofcinaaF3
import Derived.Test.YtfkjnpgpofcinaaF7
import Derived.Test.YtfkjnpgpofcinaaF9
import Derived.Test.YtfkjnpgpofcinaaF26
namespace Go.Proofs.Ytfkjnpgpofcinaa.P
open Go.RowKit Go.Proofs.YtfkjnpgpofcinaaW.PrintWords Go.Proofs.YtfkjnpgpofcinaaW.PrintLast Go.Proofs.YtfkjnpgpofcinaaW.PrintMore
attribute [local go_sem] max2_int min2_int max_two min_two max_three min_three max_four min_four   -- for this text's walks alone
set_option linter.unusedVariables false
set_option linter.unusedSimpArgs false
attribute [local go_sem high] eqA45 eqA76 eqA83

def impl_SpreadOn.f (k : Nat) (l0 : List Int) (a1 : Int) : Option ((List (S76)) × Bool) := (impl_goodTree.f k l0 (([a1] : List Int))).bind fun t1415 => (if t1415 = true then ((impl_spread.f k l0 a1).bind fun t1416 => (some (t1416, true))) else (some (([] : List (S76)), false)))
theorem impl_SpreadOn.mono : ∀ a0 a1 k, LeO (impl_SpreadOn.f k a0 a1) (impl_SpreadOn.f (k + 1) a0 a1) := by
 intro a0 a1 k
 unfold impl_SpreadOn.f
 repeat' first
   | (with_reducible exact impl_goodTree.mono _ _ _)
   | (with_reducible exact impl_spread.mono _ _ _)
   | (with_reducible exact LeO.refl _)
   | (with_reducible exact LeO.none _)
   | (with_reducible refine LeO.ite ?_ ?_)
   | (with_reducible refine LeO.bind ?_ (fun _ => ?_))
set_option maxHeartbeats 8000000 in
set_option maxRecDepth 100000 in
theorem impl_SpreadOn.calls (k : Nat) (A0 : Option Addr) (c0 : Nat) (l0 : List Int) (a1 : Int) (r1 : List (S76)) (r2 : Bool) (w : World) (hr0 : Kd.C (Kd.int .i64) w A0 l0.length l0) (hc0 : l0.length ≤ c0) (h : impl_SpreadOn.f k l0 a1 = some (r1, r2)) :
  Calls Try.prog 42 #[.slice A0 l0.length c0, .int .i64 a1] w fun e w' => ∃ v0_ : Value, e = .returned (.tuple #[v0_, .bool r2]) ∧ Kd.R k76 76 w' w.heap.size (fun _ => True) v0_ r1 ∧ Below w.heap.size w w' := by
 have HR0 := Aside0.mk hr0
 have HC0 := Aside0.mk hc0
 clear hr0 hc0
 have HB := Aside0.mk (Below.refl w.heap.size w)
 have H : ((impl_goodTree.f k l0 (([a1] : List Int))).bind fun t1415 => (if t1415 = true then ((impl_spread.f k l0 a1).bind fun t1416 => (some (t1416, true))) else (some (([] : List (S76)), false)))) = some (r1, r2) := h
 clear h
 obtain ⟨y1412, hy1412⟩ : ∃ y_ : List Int, y_ = (([a1] : List Int)) := ⟨_, rfl⟩
 replace H : ((impl_goodTree.f k l0 y1412).bind fun t1415 => (if t1415 = true then ((impl_spread.f k l0 a1).bind fun t1416 => (some (t1416, true))) else (some (([] : List (S76)), false)))) = some (r1, r2) := by first | (rw [hy1412]; with_reducible exact H) | (have H2_ := (Option.bind_some _ _).symm.trans H; rw [hy1412]; with_reducible exact H2_) | (have H2_ := (Option.bind_some _ _).symm.trans H; with_reducible exact H2_) | with_reducible exact H | (rw [hy1412]; exact H) | exact H
 have Ny1412 := Aside0.mk hy1412
 clear hy1412
 replace H := Option.bind_eq_some_iff.mp H
 obtain ⟨t1415, A30, H⟩ := H
 replace H : (if t1415 = true then ((impl_spread.f k l0 a1).bind fun t1416 => (some (t1416, true))) else (some (([] : List (S76)), false))) = some (r1, r2) := H
 have A3 := Aside0.mk A30
 clear A30
 by_cases c4 : t1415 = true
 rotate_left
 ·replace c4 := Bool.eq_false_iff.mpr c4
  subst c4
  rw [if_neg (show ¬ (false = true) by decide)] at H
  simp only [Option.some.injEq, Prod.mk.injEq] at H
  obtain ⟨rfl, rfl⟩ := H
  go_enter Try.func42, Try.ntmps42
  go_wp2_with (first | ((with_reducible refine gate_dst (N := 8) rfl ?_); refine Kd.R_lit (Kd.int .i64) _ 3 ?hg (N := 8) ?hd (xs := ([a1] : List Int)) (inner := [.int .i64 a1]) (ok := fun _ => True) (okp := fun _ => True) ?hr ?hp (fun _ hk => hk) trivial (Below.refl _ _) (Nat.le_refl _) (by simp) ?_; (case hd => rfl); (case hg => rfl); (case hr => first | (go_simp; done) | (go_simp; rfl)); (case hp => exact (Reps.one (show Kd.M (Kd.int .i64) _ _ _ a1 [.int .i64 a1] from rfl) (Reps.none _ _))); intro v1413 w10 ho11 hb hg_ hnew_; clear hg_ hnew_; (first | rw [← Ny1412.out] at ho11 | (simp only [Int.reduceToNat] at ho11; rw [← Ny1412.out] at ho11)); have HO1414 := Aside0.mk (Kd.R_lower ho11 (below_size (hB HB))); replace HB := bst_ HB hb; clear hb ho11; obtain ⟨Ao12, co12, eo12⟩ := Kd.R_slice HO1414.out; subst eo12) | ((with_reducible refine gate_callee (f := 77) rfl ?_); refine goesL_ (some 9) rfl rfl Try.func77 (by kernel_rfl) rfl #[.slice A0 l0.length c0, .slice Ao12 y1412.length co12] rfl tm_ ?_; (with_reducible refine (impl_goodTree.calls k _ _ l0 _ _ y1412 false _ ?side1 ?side2 ?side3 ?side4 A3.out).mono ?_); (case side1 => exact ca (Kd.C_below HR0.out HB.out)); (case side2 => exact HC0.out); (case side3 => exact ca (Kd.R_reads' HO1414.out).2.2); (case side4 => exact (Kd.R_reads' HO1414.out).2.1); rintro e w' ⟨rfl, ⟨nd, rfl⟩⟩; refine ⟨_, rfl, ?_⟩))
  go_ret2
  exact ⟨_, by first | rfl | (simp [errW_none, errW_some] <;> rfl) | (simp [*, errW_none, errW_some] <;> rfl), by first | exact Kd.R_nil _ _ _ _ _ | exact Kd.N_nil _ _ _ _ _ | exact Kd.V_nil _ _ _ _ _ | exact Kd.Q_nil _ _ _ _ _ | exact Kd.S_nil _ _ _ _ _, by repeat (first | (with_reducible first | exact HB.out | apply below_alloc | apply pw_below_drewN | apply below_drew1) | exact HB.out)⟩
 subst c4
 rw [if_pos rfl] at H
 replace H := Option.bind_eq_some_iff.mp H
 obtain ⟨t1416, A50, H⟩ := H
 replace H : (some (t1416, true)) = some (r1, r2) := H
 have A5 := Aside0.mk A50
 clear A50
 simp only [Option.some.injEq, Prod.mk.injEq] at H
 obtain ⟨rfl, rfl⟩ := H
 go_enter Try.func42, Try.ntmps42
 go_wp2_with (first | ((with_reducible refine gate_dst (N := 8) rfl ?_); refine Kd.R_lit (Kd.int .i64) _ 3 ?hg (N := 8) ?hd (xs := ([a1] : List Int)) (inner := [.int .i64 a1]) (ok := fun _ => True) (okp := fun _ => True) ?hr ?hp (fun _ hk => hk) trivial (Below.refl _ _) (Nat.le_refl _) (by simp) ?_; (case hd => rfl); (case hg => rfl); (case hr => first | (go_simp; done) | (go_simp; rfl)); (case hp => exact (Reps.one (show Kd.M (Kd.int .i64) _ _ _ a1 [.int .i64 a1] from rfl) (Reps.none _ _))); intro v1413 w6 ho7 hb hg_ hnew_; clear hg_ hnew_; (first | rw [← Ny1412.out] at ho7 | (simp only [Int.reduceToNat] at ho7; rw [← Ny1412.out] at ho7)); have HO1414 := Aside0.mk (Kd.R_lower ho7 (below_size (hB HB))); replace HB := bst_ HB hb; clear hb ho7; obtain ⟨Ao8, co8, eo8⟩ := Kd.R_slice HO1414.out; subst eo8) | ((with_reducible refine gate_callee (f := 77) rfl ?_); refine goesL_ (some 9) rfl rfl Try.func77 (by kernel_rfl) rfl #[.slice A0 l0.length c0, .slice Ao8 y1412.length co8] rfl tm_ ?_; (with_reducible refine (impl_goodTree.calls k _ _ l0 _ _ y1412 true _ ?side1 ?side2 ?side3 ?side4 A3.out).mono ?_); (case side1 => exact ca (Kd.C_below HR0.out HB.out)); (case side2 => exact HC0.out); (case side3 => exact ca (Kd.R_reads' HO1414.out).2.2); (case side4 => exact (Kd.R_reads' HO1414.out).2.1); rintro e w' ⟨rfl, ⟨nd, rfl⟩⟩; refine ⟨_, rfl, ?_⟩) | ((with_reducible refine gate_callee (f := 103) rfl ?_); refine goesL_ (some 13) rfl rfl Try.func103 (by kernel_rfl) rfl #[.slice A0 l0.length c0, .int .i64 a1] rfl tm_ ?_; (with_reducible refine (impl_spread.calls k _ _ l0 a1 t1416 _ ?side1 ?side2 A5.out).mono ?_); (case side1 => exact ca (Kd.C_below HR0.out (hB HB))); (case side2 => exact HC0.out); rintro e w9 ⟨v1417, rfl, ho0, hb⟩; refine ⟨_, rfl, ?_⟩; have HO1418 := Aside0.mk (Kd.R_lower ho0 (below_size (hB HB))); replace HO1414 := rb_ HO1414 hb; replace HB := bst_ HB hb; clear hb ho0))
 go_ret2
 exact ⟨_, by first | rfl | (simp [errW_none, errW_some] <;> rfl) | (simp [*, errW_none, errW_some] <;> rfl), by (with_reducible repeat (first | apply Kd.R_alloc | apply Kd.R_drewN | apply Kd.R_drew)); exact HO1418.out, by repeat (first | (with_reducible first | exact HB.out | apply below_alloc | apply pw_below_drewN | apply below_drew1) | exact HB.out)⟩

def laws_has.l0 : Nat → Int → List Int → Int → Int → Option (Bool)
 | 0, _, _, _, _ => none
 | k + 1, x1, x7, x8, x9 => if x9 < x8 then (if 0 ≤ x9 then (if x9 < (x7.length : Int) then (if (rd x7 x9) = x1 then (some true) else (laws_has.l0 k x1 x7 x8 (wrap64 (x9 + 1)))) else (none)) else (none)) else (some false)
def laws_has.f (k : Nat) (l0 : List Int) (a1 : Int) : Option (Bool) := laws_has.l0 k a1 l0 (l0.length : Int) 0
theorem laws_has.mono_l : ∀ k, (∀ y0 y1 y2 y3, LeO (laws_has.l0 k y0 y1 y2 y3) (laws_has.l0 (k + 1) y0 y1 y2 y3))
 | 0 => fun _ _ _ _ r h => by simp [laws_has.l0] at h
 | k + 1 => by
  have ih0 := laws_has.mono_l k
  ·intro y0 y1 y2 y3
   unfold laws_has.l0
   repeat' first
   | (with_reducible exact ih0 _ _ _ _)
   | (with_reducible exact LeO.refl _)
   | (with_reducible exact LeO.none _)
   | (with_reducible refine LeO.ite ?_ ?_)
   | (with_reducible refine LeO.bind ?_ (fun _ => ?_))
theorem laws_has.mono : ∀ a0 a1 k, LeO (laws_has.f k a0 a1) (laws_has.f (k + 1) a0 a1) := by
 intro a0 a1 k
 have ih0 := laws_has.mono_l k
 unfold laws_has.f
 repeat' first
   | (with_reducible exact ih0 _ _ _ _)
   | (with_reducible exact LeO.refl _)
   | (with_reducible exact LeO.none _)
   | (with_reducible refine LeO.ite ?_ ?_)
   | (with_reducible refine LeO.bind ?_ (fun _ => ?_))
set_option maxHeartbeats 8000000 in
set_option maxRecDepth 100000 in
theorem laws_has.calls (k : Nat) (A0 : Option Addr) (c0 : Nat) (l0 : List Int) (a1 : Int) (r : Bool) (w : World) (hr0 : Kd.C (Kd.int .i64) w A0 l0.length l0) (hc0 : l0.length ≤ c0) (h : laws_has.f k l0 a1 = some r) :
  Calls Try.prog 43 #[.slice A0 l0.length c0, .int .i64 a1] w fun e w' => e = .returned (.bool r) ∧ Drawn0 w w' := by
 have HR0 := Aside0.mk hr0
 have HC0 := Aside0.mk hc0
 clear hr0 hc0
 have H : (laws_has.l0 k a1 l0 (l0.length : Int) 0) = some r := h
 clear h
 have H' := Aside0.mk H
 clear H
 go_enter Try.func43, Try.ntmps43
 go_wp2
 go_loopg [9] k (fun kq v9 w' => ∃ (x9_1 : Int), v9 = .int .i64 x9_1 ∧ Aside0 (laws_has.l0 kq a1 l0 (l0.length : Int) x9_1 = some r) ∧ Aside0 (kq ≤ k) ∧ Drawn0 w w')
 case atStart => exact ⟨(0), (by first | rfl | (simp; done) | (simp [*]; done)), H', ⟨Nat.le_refl _⟩, by repeat (first | exact Drawn0.refl _ | apply Drawn0.step)⟩
 case round =>
  clear H'
  obtain ⟨x9_1, rfl, HA, HK1, ⟨m1, rfl⟩⟩ := hrel
  cases gk with
  | zero => exact absurd HA.out (by simp [laws_has.l0])
  | succ k1 =>
   have H := HA.out
   clear HA
   simp only [laws_has.l0] at H
   by_cases c3 : x9_1 < (l0.length : Int)
   rotate_left
   ·rw [if_neg c3] at H
    have c3b0 : decide (x9_1 < (l0.length : Int)) = false := decide_eq_false c3
    clear c3
    obtain rfl := Option.some.inj H
    go_wp2
    go_ret
    exact ⟨by first | rfl | (simp; done) | (simp [*]; done), by repeat (first | exact Drawn0.refl _ | apply Drawn0.step)⟩
   rw [if_pos c3] at H
   have c3b0 : decide (x9_1 < (l0.length : Int)) = true := decide_eq_true c3
   clear c3
   by_cases c4 : 0 ≤ x9_1
   rotate_left
   ·rw [if_neg c4] at H
    exact absurd H (by simp)
   rw [if_pos c4] at H
   have c4b0 : decide (0 ≤ x9_1) = true := decide_eq_true c4
   clear c4
   by_cases c5 : x9_1 < (l0.length : Int)
   rotate_left
   ·rw [if_neg c5] at H
    exact absurd H (by simp)
   rw [if_pos c5] at H
   have c5b0 : decide (x9_1 < (l0.length : Int)) = true := decide_eq_true c5
   clear c5
   by_cases c6 : (rd l0 x9_1) = a1
   ·rw [if_pos c6] at H
    have c6b0 : ((rd l0 x9_1) == a1) = true := beq_iff_eq.mpr c6
    have c6b1 : ((rd l0 x9_1) != a1) = false := bne_eq_false_iff_eq.mpr c6
    clear c6
    obtain rfl := Option.some.inj H
    have p1419 : 0 ≤ (x9_1 : Int) := of_decide_eq_true (by first | (with_reducible assumption) | assumption)
    have q1419 : x9_1 < (l0.length : Int) := of_decide_eq_true (by first | (with_reducible assumption) | assumption)
    obtain ⟨ad1419, e1419, hx1419_0⟩ := Kd.at_int HR0.out x9_1 p1419 q1419
    cases e1419
    replace p1419 := eq_true p1419
    replace q1419 := eq_true q1419
    go_wp2
    go_ret
    exact ⟨by first | rfl | (simp; done) | (simp [*]; done), by repeat (first | exact Drawn0.refl _ | apply Drawn0.step)⟩
   rw [if_neg c6] at H
   have c6b0 : ((rd l0 x9_1) == a1) = false := beq_eq_false_iff_ne.mpr c6
   have c6b1 : ((rd l0 x9_1) != a1) = true := bne_iff_ne.mpr c6
   have H' := Aside0.mk H
   clear H
   have p1419 : 0 ≤ (x9_1 : Int) := of_decide_eq_true (by first | (with_reducible assumption) | assumption)
   have q1419 : x9_1 < (l0.length : Int) := of_decide_eq_true (by first | (with_reducible assumption) | assumption)
   obtain ⟨ad1419, e1419, hx1419_0⟩ := Kd.at_int HR0.out x9_1 p1419 q1419
   cases e1419
   replace p1419 := eq_true p1419
   replace q1419 := eq_true q1419
   go_wp2
   go_roundg k1
   case measure => have := HK1.out; omega
   case rel => exact ⟨(wrap64 (x9_1 + 1)), (by first | rfl | (simp; done) | (simp [*]; done)), H', ⟨by have := HK1.out; omega⟩, by repeat (first | exact Drawn0.refl _ | apply Drawn0.step)⟩

def spec_DrawSpreadOn.f (k : Nat) (l0 : List Int) : Option (List Int × Int) := (slices_xorshift_Next.f l0).bind fun bt1420 => ((spec_l1Cur_parents.f k bt1420.1 bt1420.2.1 bt1420.2.2).bind fun bt1424 => ((spec_l1Cur_pick.f bt1420.1 bt1424.2.1 bt1424.2.2 (wrap64 ((bt1424.1.length : Int) + 2))).bind fun bt1429 => (some (bt1424.1, wrap64 (bt1429.1 - 1)))))
theorem spec_DrawSpreadOn.mono : ∀ a0 k, LeO (spec_DrawSpreadOn.f k a0) (spec_DrawSpreadOn.f (k + 1) a0) := by
 intro a0 k
 unfold spec_DrawSpreadOn.f
 repeat' first
   | (with_reducible exact spec_l1Cur_parents.mono _ _ _ _)
   | (with_reducible exact LeO.refl _)
   | (with_reducible exact LeO.none _)
   | (with_reducible refine LeO.ite ?_ ?_)
   | (with_reducible refine LeO.bind ?_ (fun _ => ?_))
set_option maxHeartbeats 8000000 in
set_option maxRecDepth 100000 in
theorem spec_DrawSpreadOn.calls (k : Nat) (A0 : Option Addr) (c0 : Nat) (l0 : List Int) (r1 : List Int) (r2 : Int) (w : World) (hr0 : Kd.C (Kd.int .u8) w A0 l0.length l0) (hc0 : l0.length ≤ c0) (h : spec_DrawSpreadOn.f k l0 = some (r1, r2)) :
  Calls Try.prog 104 #[.slice A0 l0.length c0] w fun e w' => ∃ v0_ : Value, e = .returned (.tuple #[v0_, .int .i64 r2]) ∧ Kd.R (Kd.int .i64) 3 w' w.heap.size (fun _ => True) v0_ r1 ∧ Below w.heap.size w w' := by
 have HR0 := Aside0.mk hr0
 have HC0 := Aside0.mk hc0
 clear hr0 hc0
 have HB := Aside0.mk (Below.refl w.heap.size w)
 have H : ((slices_xorshift_Next.f l0).bind fun bt1420 => ((spec_l1Cur_parents.f k bt1420.1 bt1420.2.1 bt1420.2.2).bind fun bt1424 => ((spec_l1Cur_pick.f bt1420.1 bt1424.2.1 bt1424.2.2 (wrap64 ((bt1424.1.length : Int) + 2))).bind fun bt1429 => (some (bt1424.1, wrap64 (bt1429.1 - 1)))))) = some (r1, r2) := h
 clear h
 replace H := Option.bind_eq_some_iff.mp H
 obtain ⟨⟨t1420, t1421, t1422⟩, A20, H⟩ := H
 replace H : ((spec_l1Cur_parents.f k t1420 t1421 t1422).bind fun bt1424 => ((spec_l1Cur_pick.f t1420 bt1424.2.1 bt1424.2.2 (wrap64 ((bt1424.1.length : Int) + 2))).bind fun bt1429 => (some (bt1424.1, wrap64 (bt1429.1 - 1))))) = some (r1, r2) := H
 have DE_A2 : Aside0 (t1420 = l0 ∧ t1421 = 0 ∧ t1422 = 0) := ⟨by have h_ := A20; simp only [slices_xorshift_Next.f, Option.some.injEq, Prod.mk.injEq] at h_; exact ⟨h_.1.symm, h_.2.1.symm, h_.2.2.symm⟩⟩
 have A2 := Aside0.mk A20
 clear A20
 replace H := Option.bind_eq_some_iff.mp H
 obtain ⟨⟨t1424, t1427, t1428⟩, A30, H⟩ := H
 replace H : ((spec_l1Cur_pick.f t1420 t1427 t1428 (wrap64 ((t1424.length : Int) + 2))).bind fun bt1429 => (some (t1424, wrap64 (bt1429.1 - 1)))) = some (r1, r2) := H
 have A3 := Aside0.mk A30
 clear A30
 replace H := Option.bind_eq_some_iff.mp H
 obtain ⟨⟨t1429, t1430, t1431⟩, A40, H⟩ := H
 replace H : (some (t1424, wrap64 (t1429 - 1))) = some (r1, r2) := H
 have A4 := Aside0.mk A40
 clear A40
 simp only [Option.some.injEq, Prod.mk.injEq] at H
 obtain ⟨rfl, rfl⟩ := H
 go_enter Try.func104, Try.ntmps104
 go_wp2_with (first | ((with_reducible refine gate_dst (N := 8) rfl ?_); refine box_event ?hg (N := 8) ?hd (cs := #[.slice A0 l0.length c0, .int .i64 0, .int .u64 0]) (t := 105) ?hr ?_; (case hd => rfl); (case hg => rfl); (case hr => first | (go_simp; done) | (go_simp; rfl)); intro g1423 hg w5 hbox hb2; have hi : IsS105 w w5 g1423 t1420 t1421 t1422 := (by rw [DE_A2.out.1, DE_A2.out.2.1, DE_A2.out.2.2]; exact ⟨_, _, hbox, (gw_ hg HB).out, HR0.out⟩); have hb := (bst_ HB hb2).out; clear hg hbox; have HI1423 := Aside0.mk (hi); replace HB := Aside0.mk (hb); clear hb hb2 hi) | ((with_reducible refine gate_callee (f := 96) rfl ?_); refine goesL_ (some 10) rfl rfl Try.func96 (by kernel_rfl) rfl #[.pointer (some ⟨g1423, 0, none⟩)] rfl tm_ ?_; (with_reducible refine (spec_l1Cur_parents.calls k g1423 t1420 t1421 t1422 t1424 t1427 t1428 w _ ?side1 ?side2 A3.out).mono ?_); (case side1 => repeat (first | (with_reducible first | exact HI1423.out | apply IsS105.alloc | apply IsS105.drewN | apply IsS105.drew | apply IsS105.set_1 | apply IsS105.set_2) | exact HI1423.out)); (case side2 => repeat (first | (with_reducible first | exact HB.out | apply below_alloc | apply pw_below_drewN | apply below_drew1 | refine below_set ?_ (IsS105.ge HI1423.out)) | exact HB.out)); rintro e w6 ⟨v1425, rfl, ho0, hi, hb, hk⟩; refine ⟨_, rfl, ?_⟩; have HO1426 := Aside0.mk (Kd.R_lower ho0 (below_size (by repeat (first | (with_reducible first | exact HB.out | apply below_alloc | apply pw_below_drewN | apply below_drew1 | refine below_set ?_ (IsS105.ge HI1423.out)) | exact HB.out)))); replace HB := Aside0.mk (hb); replace HI1423 := Aside0.mk (hi); clear hb hk hi ho0; obtain ⟨Ao7, co7, eo7⟩ := Kd.R_slice HO1426.out; subst eo7) | ((with_reducible refine gate_callee (f := 94) rfl ?_); refine goesL_ (some 16) rfl rfl Try.func94 (by kernel_rfl) rfl #[.pointer (some ⟨g1423, 0, none⟩), .int .i64 (wrap64 ((t1424.length : Int) + 2))] rfl tm_ ?_; (with_reducible refine (spec_l1Cur_pick.calls g1423 t1420 t1427 t1428 (wrap64 ((t1424.length : Int) + 2)) t1429 t1430 t1431 w _ ?side1 ?side2 A4.out).mono ?_); (case side1 => repeat (first | (with_reducible first | exact HI1423.out | apply IsS105.alloc | apply IsS105.drewN | apply IsS105.drew | apply IsS105.set_1 | apply IsS105.set_2) | exact HI1423.out)); (case side2 => repeat (first | (with_reducible first | exact HB.out | apply below_alloc | apply pw_below_drewN | apply below_drew1 | refine below_set ?_ (IsS105.ge HI1423.out)) | exact HB.out)); rintro e w8 ⟨rfl, hi, hb, hk⟩; refine ⟨_, rfl, ?_⟩; replace HO1426 := Aside0.mk (Kd.R_mono (Kd.R_keep (IsS105.apart (show IsS105 w _ g1423 t1420 t1427 t1428 from by repeat (first | (with_reducible first | exact HI1423.out | apply IsS105.alloc | apply IsS105.drewN | apply IsS105.drew | apply IsS105.set_1 | apply IsS105.set_2) | exact HI1423.out)) (ra HO1426.out) (by decide)) hk (fun _ h => h.2)) (fun _ h => h.1)); replace HB := Aside0.mk (hb); replace HI1423 := Aside0.mk (hi); clear hb hk hi))
 go_ret2
 exact ⟨_, by first | rfl | (simp [errW_none, errW_some] <;> rfl) | (simp [*, errW_none, errW_some] <;> rfl), by (with_reducible repeat (first | apply Kd.R_alloc | apply Kd.R_drewN | apply Kd.R_drew)); exact HO1426.out, by repeat (first | (with_reducible first | exact HB.out | apply below_alloc | apply pw_below_drewN | apply below_drew1 | refine below_set ?_ (IsS105.ge HI1423.out)) | exact HB.out)⟩

def spec_DrawBranchesAt.f (k : Nat) (l0 : List Int) : Option (List Int × Int) := (spec_DrawSpreadOn.f k l0).bind fun bt1432 => (some (bt1432.1, bt1432.2))
theorem spec_DrawBranchesAt.mono : ∀ a0 k, LeO (spec_DrawBranchesAt.f k a0) (spec_DrawBranchesAt.f (k + 1) a0) := by
 intro a0 k
 unfold spec_DrawBranchesAt.f
 repeat' first
   | (with_reducible exact spec_DrawSpreadOn.mono _ _)
   | (with_reducible exact LeO.refl _)
   | (with_reducible exact LeO.none _)
   | (with_reducible refine LeO.ite ?_ ?_)
   | (with_reducible refine LeO.bind ?_ (fun _ => ?_))
set_option maxHeartbeats 8000000 in
set_option maxRecDepth 100000 in
theorem spec_DrawBranchesAt.calls (k : Nat) (A0 : Option Addr) (c0 : Nat) (l0 : List Int) (r1 : List Int) (r2 : Int) (w : World) (hr0 : Kd.C (Kd.int .u8) w A0 l0.length l0) (hc0 : l0.length ≤ c0) (h : spec_DrawBranchesAt.f k l0 = some (r1, r2)) :
  Calls Try.prog 44 #[.slice A0 l0.length c0] w fun e w' => ∃ v0_ : Value, e = .returned (.tuple #[v0_, .int .i64 r2]) ∧ Kd.R (Kd.int .i64) 3 w' w.heap.size (fun _ => True) v0_ r1 ∧ Below w.heap.size w w' := by
 have HR0 := Aside0.mk hr0
 have HC0 := Aside0.mk hc0
 clear hr0 hc0
 have HB := Aside0.mk (Below.refl w.heap.size w)
 have H : ((spec_DrawSpreadOn.f k l0).bind fun bt1432 => (some (bt1432.1, bt1432.2))) = some (r1, r2) := h
 clear h
 replace H := Option.bind_eq_some_iff.mp H
 obtain ⟨⟨t1432, t1433⟩, A20, H⟩ := H
 replace H : (some (t1432, t1433)) = some (r1, r2) := H
 have A2 := Aside0.mk A20
 clear A20
 simp only [Option.some.injEq, Prod.mk.injEq] at H
 obtain ⟨rfl, rfl⟩ := H
 go_enter Try.func44, Try.ntmps44
 go_wp2_with (first | ((with_reducible refine gate_callee (f := 104) rfl ?_); refine goesL_ (some 5) rfl rfl Try.func104 (by kernel_rfl) rfl #[.slice A0 l0.length c0] rfl tm_ ?_; (with_reducible refine (spec_DrawSpreadOn.calls k _ _ l0 t1432 t1433 _ ?side1 ?side2 A2.out).mono ?_); (case side1 => exact ca HR0.out); (case side2 => exact HC0.out); rintro e w3 ⟨v1434, rfl, ho0, hb⟩; refine ⟨_, rfl, ?_⟩; have HO1435 := Aside0.mk (Kd.R_lower ho0 (below_size (hB HB))); replace HB := bst_ HB hb; clear hb ho0))
 go_ret2
 exact ⟨_, by first | rfl | (simp [errW_none, errW_some] <;> rfl) | (simp [*, errW_none, errW_some] <;> rfl), by (with_reducible repeat (first | apply Kd.R_alloc | apply Kd.R_drewN | apply Kd.R_drew)); exact HO1435.out, by repeat (first | (with_reducible first | exact HB.out | apply below_alloc | apply pw_below_drewN | apply below_drew1) | exact HB.out)⟩

def impl_BranchesAt.f (k : Nat) (l0 : List Int) (a1 : Int) : Option (List Int × Bool) := (impl_goodTree.f k l0 (([a1] : List Int))).bind fun t1439 => (if t1439 = true then ((impl_branches.f k l0 a1).bind fun t1440 => (some (t1440, true))) else (some (([] : List Int), false)))
theorem impl_BranchesAt.mono : ∀ a0 a1 k, LeO (impl_BranchesAt.f k a0 a1) (impl_BranchesAt.f (k + 1) a0 a1) := by
 intro a0 a1 k
 unfold impl_BranchesAt.f
 repeat' first
   | (with_reducible exact impl_branches.mono _ _ _)
   | (with_reducible exact impl_goodTree.mono _ _ _)
   | (with_reducible exact LeO.refl _)
   | (with_reducible exact LeO.none _)
   | (with_reducible refine LeO.ite ?_ ?_)
   | (with_reducible refine LeO.bind ?_ (fun _ => ?_))
set_option maxHeartbeats 8000000 in
set_option maxRecDepth 100000 in
theorem impl_BranchesAt.calls (k : Nat) (A0 : Option Addr) (c0 : Nat) (l0 : List Int) (a1 : Int) (r1 : List Int) (r2 : Bool) (w : World) (hr0 : Kd.C (Kd.int .i64) w A0 l0.length l0) (hc0 : l0.length ≤ c0) (h : impl_BranchesAt.f k l0 a1 = some (r1, r2)) :
  Calls Try.prog 45 #[.slice A0 l0.length c0, .int .i64 a1] w fun e w' => ∃ v0_ : Value, e = .returned (.tuple #[v0_, .bool r2]) ∧ Kd.R (Kd.int .i64) 3 w' w.heap.size (fun _ => True) v0_ r1 ∧ Below w.heap.size w w' := by
 have HR0 := Aside0.mk hr0
 have HC0 := Aside0.mk hc0
 clear hr0 hc0
 have HB := Aside0.mk (Below.refl w.heap.size w)
 have H : ((impl_goodTree.f k l0 (([a1] : List Int))).bind fun t1439 => (if t1439 = true then ((impl_branches.f k l0 a1).bind fun t1440 => (some (t1440, true))) else (some (([] : List Int), false)))) = some (r1, r2) := h
 clear h
 obtain ⟨y1436, hy1436⟩ : ∃ y_ : List Int, y_ = (([a1] : List Int)) := ⟨_, rfl⟩
 replace H : ((impl_goodTree.f k l0 y1436).bind fun t1439 => (if t1439 = true then ((impl_branches.f k l0 a1).bind fun t1440 => (some (t1440, true))) else (some (([] : List Int), false)))) = some (r1, r2) := by first | (rw [hy1436]; with_reducible exact H) | (have H2_ := (Option.bind_some _ _).symm.trans H; rw [hy1436]; with_reducible exact H2_) | (have H2_ := (Option.bind_some _ _).symm.trans H; with_reducible exact H2_) | with_reducible exact H | (rw [hy1436]; exact H) | exact H
 have Ny1436 := Aside0.mk hy1436
 clear hy1436
 replace H := Option.bind_eq_some_iff.mp H
 obtain ⟨t1439, A30, H⟩ := H
 replace H : (if t1439 = true then ((impl_branches.f k l0 a1).bind fun t1440 => (some (t1440, true))) else (some (([] : List Int), false))) = some (r1, r2) := H
 have A3 := Aside0.mk A30
 clear A30
 by_cases c4 : t1439 = true
 rotate_left
 ·replace c4 := Bool.eq_false_iff.mpr c4
  subst c4
  rw [if_neg (show ¬ (false = true) by decide)] at H
  simp only [Option.some.injEq, Prod.mk.injEq] at H
  obtain ⟨rfl, rfl⟩ := H
  go_enter Try.func45, Try.ntmps45
  go_wp2_with (first | ((with_reducible refine gate_dst (N := 8) rfl ?_); refine Kd.R_lit (Kd.int .i64) _ 3 ?hg (N := 8) ?hd (xs := ([a1] : List Int)) (inner := [.int .i64 a1]) (ok := fun _ => True) (okp := fun _ => True) ?hr ?hp (fun _ hk => hk) trivial (Below.refl _ _) (Nat.le_refl _) (by simp) ?_; (case hd => rfl); (case hg => rfl); (case hr => first | (go_simp; done) | (go_simp; rfl)); (case hp => exact (Reps.one (show Kd.M (Kd.int .i64) _ _ _ a1 [.int .i64 a1] from rfl) (Reps.none _ _))); intro v1437 w10 ho11 hb hg_ hnew_; clear hg_ hnew_; (first | rw [← Ny1436.out] at ho11 | (simp only [Int.reduceToNat] at ho11; rw [← Ny1436.out] at ho11)); have HO1438 := Aside0.mk (Kd.R_lower ho11 (below_size (hB HB))); replace HB := bst_ HB hb; clear hb ho11; obtain ⟨Ao12, co12, eo12⟩ := Kd.R_slice HO1438.out; subst eo12) | ((with_reducible refine gate_callee (f := 77) rfl ?_); refine goesL_ (some 9) rfl rfl Try.func77 (by kernel_rfl) rfl #[.slice A0 l0.length c0, .slice Ao12 y1436.length co12] rfl tm_ ?_; (with_reducible refine (impl_goodTree.calls k _ _ l0 _ _ y1436 false _ ?side1 ?side2 ?side3 ?side4 A3.out).mono ?_); (case side1 => exact ca (Kd.C_below HR0.out HB.out)); (case side2 => exact HC0.out); (case side3 => exact ca (Kd.R_reads' HO1438.out).2.2); (case side4 => exact (Kd.R_reads' HO1438.out).2.1); rintro e w' ⟨rfl, ⟨nd, rfl⟩⟩; refine ⟨_, rfl, ?_⟩))
  go_ret2
  exact ⟨_, by first | rfl | (simp [errW_none, errW_some] <;> rfl) | (simp [*, errW_none, errW_some] <;> rfl), by first | exact Kd.R_nil _ _ _ _ _ | exact Kd.N_nil _ _ _ _ _ | exact Kd.V_nil _ _ _ _ _ | exact Kd.Q_nil _ _ _ _ _ | exact Kd.S_nil _ _ _ _ _, by repeat (first | (with_reducible first | exact HB.out | apply below_alloc | apply pw_below_drewN | apply below_drew1) | exact HB.out)⟩
 subst c4
 rw [if_pos rfl] at H
 replace H := Option.bind_eq_some_iff.mp H
 obtain ⟨t1440, A50, H⟩ := H
 replace H : (some (t1440, true)) = some (r1, r2) := H
 have A5 := Aside0.mk A50
 clear A50
 simp only [Option.some.injEq, Prod.mk.injEq] at H
 obtain ⟨rfl, rfl⟩ := H
 go_enter Try.func45, Try.ntmps45
 go_wp2_with (first | ((with_reducible refine gate_dst (N := 8) rfl ?_); refine Kd.R_lit (Kd.int .i64) _ 3 ?hg (N := 8) ?hd (xs := ([a1] : List Int)) (inner := [.int .i64 a1]) (ok := fun _ => True) (okp := fun _ => True) ?hr ?hp (fun _ hk => hk) trivial (Below.refl _ _) (Nat.le_refl _) (by simp) ?_; (case hd => rfl); (case hg => rfl); (case hr => first | (go_simp; done) | (go_simp; rfl)); (case hp => exact (Reps.one (show Kd.M (Kd.int .i64) _ _ _ a1 [.int .i64 a1] from rfl) (Reps.none _ _))); intro v1437 w6 ho7 hb hg_ hnew_; clear hg_ hnew_; (first | rw [← Ny1436.out] at ho7 | (simp only [Int.reduceToNat] at ho7; rw [← Ny1436.out] at ho7)); have HO1438 := Aside0.mk (Kd.R_lower ho7 (below_size (hB HB))); replace HB := bst_ HB hb; clear hb ho7; obtain ⟨Ao8, co8, eo8⟩ := Kd.R_slice HO1438.out; subst eo8) | ((with_reducible refine gate_callee (f := 77) rfl ?_); refine goesL_ (some 9) rfl rfl Try.func77 (by kernel_rfl) rfl #[.slice A0 l0.length c0, .slice Ao8 y1436.length co8] rfl tm_ ?_; (with_reducible refine (impl_goodTree.calls k _ _ l0 _ _ y1436 true _ ?side1 ?side2 ?side3 ?side4 A3.out).mono ?_); (case side1 => exact ca (Kd.C_below HR0.out HB.out)); (case side2 => exact HC0.out); (case side3 => exact ca (Kd.R_reads' HO1438.out).2.2); (case side4 => exact (Kd.R_reads' HO1438.out).2.1); rintro e w' ⟨rfl, ⟨nd, rfl⟩⟩; refine ⟨_, rfl, ?_⟩) | ((with_reducible refine gate_callee (f := 98) rfl ?_); refine goesL_ (some 13) rfl rfl Try.func98 (by kernel_rfl) rfl #[.slice A0 l0.length c0, .int .i64 a1] rfl tm_ ?_; (with_reducible refine (impl_branches.calls k _ _ l0 a1 t1440 _ ?side1 ?side2 A5.out).mono ?_); (case side1 => exact ca (Kd.C_below HR0.out (hB HB))); (case side2 => exact HC0.out); rintro e w9 ⟨v1441, rfl, ho0, hb⟩; refine ⟨_, rfl, ?_⟩; have HO1442 := Aside0.mk (Kd.R_lower (Kd.R_new' ho0 (rl_ HO1438)) (below_size (hB HB))); replace HO1438 := re_ HO1438 ho0 hb; replace HB := bst_ HB hb; clear hb ho0))
 go_ret2
 exact ⟨_, by first | rfl | (simp [errW_none, errW_some] <;> rfl) | (simp [*, errW_none, errW_some] <;> rfl), by (with_reducible repeat (first | apply Kd.R_alloc | apply Kd.R_drewN | apply Kd.R_drew)); exact Kd.R_mono HO1442.out (fun _ hk => trivial), by repeat (first | (with_reducible first | exact HB.out | apply below_alloc | apply pw_below_drewN | apply below_drew1) | exact HB.out)⟩

def spec_l1Cur_wants.l0 : Nat → List Int → Int → List Int → Int → Int → Option (List Int × Int × Int)
 | 0, _, _, _, _, _ => none
 | k + 1, x3, x4, x1000, x1001, x1002 => if x4 > 0 then ((spec_l1Cur_pick.f x1000 x1001 x1002 9).bind fun bt1446 => ((spec_l1Put.f k x3 bt1446.1).bind fun t1449 => (spec_l1Cur_wants.l0 k t1449 (wrap64 (x4 - 1)) x1000 bt1446.2.1 bt1446.2.2))) else ((spec_l1Cur_one.f x1000 x1001 x1002 20).bind fun bt1452 => (if bt1452.1 = true then ((spec_l1Cur_among.f x1000 bt1452.2.1 bt1452.2.2 (([(-1), 11, 12] : List Int))).bind fun bt1458 => ((spec_l1Put.f k x3 bt1458.1).bind fun t1461 => (some (t1461, bt1458.2.1, bt1458.2.2)))) else (some (x3, bt1452.2.1, bt1452.2.2))))
def spec_l1Cur_wants.f (k : Nat) (s0_0 : List Int) (s0_1 : Int) (s0_2 : Int) : Option (List Int × Int × Int) := (spec_l1Cur_pick.f s0_0 s0_1 s0_2 5).bind fun bt1443 => (spec_l1Cur_wants.l0 k ([] : List Int) bt1443.1 s0_0 bt1443.2.1 bt1443.2.2)
theorem spec_l1Cur_wants.mono_l : ∀ k, (∀ y0 y1 y2 y3 y4, LeO (spec_l1Cur_wants.l0 k y0 y1 y2 y3 y4) (spec_l1Cur_wants.l0 (k + 1) y0 y1 y2 y3 y4))
 | 0 => fun _ _ _ _ _ r h => by simp [spec_l1Cur_wants.l0] at h
 | k + 1 => by
  have ih0 := spec_l1Cur_wants.mono_l k
  ·intro y0 y1 y2 y3 y4
   unfold spec_l1Cur_wants.l0
   repeat' first
   | (with_reducible exact ih0 _ _ _ _ _)
   | (with_reducible exact spec_l1Put.mono _ _ _)
   | (with_reducible exact LeO.refl _)
   | (with_reducible exact LeO.none _)
   | (with_reducible refine LeO.ite ?_ ?_)
   | (with_reducible refine LeO.bind ?_ (fun _ => ?_))
theorem spec_l1Cur_wants.mono : ∀ a0 a1 a2 k, LeO (spec_l1Cur_wants.f k a0 a1 a2) (spec_l1Cur_wants.f (k + 1) a0 a1 a2) := by
 intro a0 a1 a2 k
 have ih0 := spec_l1Cur_wants.mono_l k
 unfold spec_l1Cur_wants.f
 repeat' first
   | (with_reducible exact ih0 _ _ _ _ _)
   | (with_reducible exact spec_l1Put.mono _ _ _)
   | (with_reducible exact LeO.refl _)
   | (with_reducible exact LeO.none _)
   | (with_reducible refine LeO.ite ?_ ?_)
   | (with_reducible refine LeO.bind ?_ (fun _ => ?_))
set_option maxHeartbeats 8000000 in
set_option maxRecDepth 100000 in
theorem spec_l1Cur_wants.calls (k : Nat) (g : Nat) (s0_0 : List Int) (s0_1 : Int) (s0_2 : Int) (r1 : List Int) (r2 : Int) (r3 : Int) (w0 w : World) (hI : IsS105 w0 w g s0_0 s0_1 s0_2) (hB : Below w0.heap.size w0 w) (h : spec_l1Cur_wants.f k s0_0 s0_1 s0_2 = some (r1, r2, r3)) :
  Calls Try.prog 105 #[.pointer (some ⟨g, 0, none⟩)] w fun e w' => ∃ v0_ : Value, e = .returned (v0_) ∧ Kd.V (Kd.int .i64) 3 w' w.heap.size (fun k_ => (w.heap.size ≤ k_)) v0_ r1 ∧ IsS105 w0 w' g s0_0 r2 r3 ∧ Below w0.heap.size w0 w' ∧ KeepBut w w' g none := by
 have HI0 := Aside0.mk hI
 have HK := Aside0.mk (KeepBut.refl w g none)
 have HL := Aside0.mk hB.size
 clear hI
 have HW0 := Aside0.mk hB.size
 have HB := Aside0.mk hB
 clear hB
 have H : ((spec_l1Cur_pick.f s0_0 s0_1 s0_2 5).bind fun bt1443 => (spec_l1Cur_wants.l0 k ([] : List Int) bt1443.1 s0_0 bt1443.2.1 bt1443.2.2)) = some (r1, r2, r3) := h
 clear h
 replace H := Option.bind_eq_some_iff.mp H
 obtain ⟨⟨t1443, t1444, t1445⟩, A20, H⟩ := H
 replace H : (spec_l1Cur_wants.l0 k ([] : List Int) t1443 s0_0 t1444 t1445) = some (r1, r2, r3) := H
 have A2 := Aside0.mk A20
 clear A20
 have H' := Aside0.mk H
 clear H
 go_enter Try.func105, Try.ntmps105
 go_wp2_with (first | ((with_reducible refine gate_callee (f := 94) rfl ?_); refine goesL_ (some 6) rfl rfl Try.func94 (by kernel_rfl) rfl #[.pointer (some ⟨g, 0, none⟩), .int .i64 5] rfl tm_ ?_; (with_reducible refine (spec_l1Cur_pick.calls g s0_0 s0_1 s0_2 5 t1443 t1444 t1445 w0 _ ?side1 ?side2 A2.out).mono ?_); (case side1 => repeat (first | (with_reducible first | exact HI0.out | apply IsS105.alloc | apply IsS105.drewN | apply IsS105.drew | apply IsS105.set_1 | apply IsS105.set_2) | exact HI0.out)); (case side2 => repeat (first | (with_reducible first | exact HB.out | apply below_alloc | apply pw_below_drewN | apply below_drew1 | refine below_set ?_ (IsS105.ge HI0.out)) | exact HB.out)); rintro e w3 ⟨rfl, hi, hb, hk⟩; refine ⟨_, rfl, ?_⟩; replace HK := Aside0.mk (KeepBut.trans (by repeat (first | (with_reducible first | exact HK.out | apply KeepBut.set_ | apply keep_drewN | apply keep_drew | apply keep_alloc) | exact HK.out)) hk (.inl rfl)); replace HB := Aside0.mk (hb); replace HI0 := Aside0.mk (hi); clear hb hk hi))
 go_loopg [3, 4] k (fun kq v3 v4 w' => ∃ (x3_1 : List Int) (x4_1 : Int) (x1001_1 : Int) (x1002_1 : Int), v4 = .int .i64 x4_1 ∧ Aside0 (spec_l1Cur_wants.l0 kq x3_1 x4_1 s0_0 x1001_1 x1002_1 = some (r1, r2, r3)) ∧ Aside0 (kq ≤ k) ∧ Aside0 (Kd.V (Kd.int .i64) 3 w' w.heap.size (fun k_ => (w.heap.size ≤ k_) ∧ k_ ≠ g) v3 x3_1) ∧ Aside0 (IsS105 w0 w' g s0_0 x1001_1 x1002_1) ∧ Aside0 (KeepBut w w' g none) ∧ Aside0 (Below w0.heap.size w0 w'))
 case atStart => exact ⟨(([] : List Int)), (t1443), (t1444), (t1445), (by first | rfl | (simp; done) | (simp [*]; done)), H', ⟨Nat.le_refl _⟩, ⟨Kd.V_nil _ _ _ _ _⟩, ⟨by repeat (first | (with_reducible first | exact HI0.out | apply IsS105.alloc | apply IsS105.drewN | apply IsS105.drew | apply IsS105.set_1 | apply IsS105.set_2) | exact HI0.out)⟩, ⟨by repeat (first | (with_reducible first | exact HK.out | apply KeepBut.set_ | apply keep_drewN | apply keep_drew | apply keep_alloc) | exact HK.out)⟩, ⟨by repeat (first | (with_reducible first | exact HB.out | apply below_alloc | apply pw_below_drewN | apply below_drew1 | refine below_set ?_ (IsS105.ge HI0.out)) | exact HB.out)⟩⟩
 case round =>
  clear H'
  obtain ⟨x3_1, x4_1, x1001_1, x1002_1, rfl, HA, HK1, HO_3, HI0, HK, HB⟩ := hrel
  cases gk with
  | zero => exact absurd HA.out (by simp [spec_l1Cur_wants.l0])
  | succ k1 =>
   have H := HA.out
   clear HA
   simp only [spec_l1Cur_wants.l0] at H
   by_cases c4 : x4_1 > 0
   ·rw [if_pos c4] at H
    have c4b0 : decide (0 < x4_1) = true := decide_eq_true c4
    clear c4
    replace H := Option.bind_eq_some_iff.mp H
    obtain ⟨⟨t1446, t1447, t1448⟩, A50, H⟩ := H
    replace H : ((spec_l1Put.f k1 x3_1 t1446).bind fun t1449 => (spec_l1Cur_wants.l0 k1 t1449 (wrap64 (x4_1 - 1)) s0_0 t1447 t1448)) = some (r1, r2, r3) := H
    have A5 := Aside0.mk A50
    clear A50
    replace H := Option.bind_eq_some_iff.mp H
    obtain ⟨t1449, A60, H⟩ := H
    replace H : (spec_l1Cur_wants.l0 k1 t1449 (wrap64 (x4_1 - 1)) s0_0 t1447 t1448) = some (r1, r2, r3) := H
    have A6 := Aside0.mk A60
    clear A60
    have H' := Aside0.mk H
    clear H
    go_wp2_with (first | ((with_reducible refine gate_callee (f := 94) rfl ?_); refine goesL_ (some 13) rfl rfl Try.func94 (by kernel_rfl) rfl #[.pointer (some ⟨g, 0, none⟩), .int .i64 9] rfl tm_ ?_; (with_reducible refine (spec_l1Cur_pick.calls g s0_0 x1001_1 x1002_1 9 t1446 t1447 t1448 w0 _ ?side1 ?side2 A5.out).mono ?_); (case side1 => repeat (first | (with_reducible first | exact HI0.out | apply IsS105.alloc | apply IsS105.drewN | apply IsS105.drew | apply IsS105.set_1 | apply IsS105.set_2) | exact HI0.out)); (case side2 => repeat (first | (with_reducible first | exact HB.out | apply below_alloc | apply pw_below_drewN | apply below_drew1 | refine below_set ?_ (IsS105.ge HI0.out)) | exact HB.out)); rintro e w7 ⟨rfl, hi, hb, hk⟩; refine ⟨_, rfl, ?_⟩; replace HO_3 := Aside0.mk (Kd.V_mono (Kd.V_keep (Kd.V_mono (ok := fun k_ => (((w.heap.size ≤ k_)) ∧ k_ ≠ g)) (by (with_reducible repeat (first | apply Kd.V_alloc | apply Kd.V_drewN | apply Kd.V_drew)); exact HO_3.out) (fun k_ hk_ => (⟨hk_, hk_.2⟩ : _ ∧ k_ ≠ g))) hk (fun _ h => h.2)) (fun _ h => h.1)); replace HK := Aside0.mk (KeepBut.trans (by repeat (first | (with_reducible first | exact HK.out | apply KeepBut.set_ | apply keep_drewN | apply keep_drew | apply keep_alloc) | exact HK.out)) hk (.inl rfl)); replace HB := Aside0.mk (hb); replace HI0 := Aside0.mk (hi); clear hb hk hi; obtain ⟨Ao8, co8, eo8⟩ := Kd.V_slice HO_3.out; subst eo8) | ((with_reducible refine gate_callee (f := 108) rfl ?_); refine goesL_ (some 14) rfl rfl Try.func108 (by kernel_rfl) rfl #[.slice Ao8 x3_1.length co8, .int .i64 t1446] rfl tm_ ?_; (with_reducible refine (spec_l1Put.calls k1 (fun k_ => ((w.heap.size ≤ k_) ∧ k_ ≠ g)) _ _ x3_1 t1446 t1449 _ ?side1 A6.out).mono ?_); (case side1 => exact HO_3.out); rintro e w9 ⟨v1450, rfl, ho0, hb⟩; refine ⟨_, rfl, ?_⟩; have HO1451 := Aside0.mk (Kd.V_lower (Kd.V_mono (ok' := fun k_ => (w.heap.size ≤ k_) ∧ k_ ≠ g) ho0 (fun k_ hk_ => ⟨Or.elim hk_ (fun hs_ => hs_.1) (fun hn_ => (Nat.le_trans (keep_size (w := w) (g := g) (row := none) (by repeat (first | (with_reducible first | exact HK.out | apply KeepBut.set_ | apply keep_drewN | apply keep_drew | apply keep_alloc) | exact HK.out))) hn_)), Or.elim hk_ (fun hs_ => hs_.2) (fun hn_ => (IsS105.fresh (by repeat (first | (with_reducible first | exact HI0.out | apply IsS105.alloc | apply IsS105.drewN | apply IsS105.drew | apply IsS105.set_1 | apply IsS105.set_2) | exact HI0.out)) k_ hn_))⟩)) (keep_size (w := w) (g := g) (row := none) (by repeat (first | (with_reducible first | exact HK.out | apply KeepBut.set_ | apply keep_drewN | apply keep_drew | apply keep_alloc) | exact HK.out)))); replace HO_3 := Aside0.mk (Kd.V_below (by (with_reducible repeat (first | apply Kd.V_alloc | apply Kd.V_drewN | apply Kd.V_drew)); exact HO_3.out) hb); replace HK := Aside0.mk (KeepBut.trans (by repeat (first | (with_reducible first | exact HK.out | apply KeepBut.set_ | apply keep_drewN | apply keep_drew | apply keep_alloc) | exact HK.out)) (KeepBut.of_below hb g none) (.inl rfl)); replace HB := Aside0.mk (below_step (by repeat (first | (with_reducible first | exact HB.out | apply below_alloc | apply pw_below_drewN | apply below_drew1 | refine below_set ?_ (IsS105.ge HI0.out)) | exact HB.out)) hb); replace HI0 := Aside0.mk (IsS105.below (by repeat (first | (with_reducible first | exact HI0.out | apply IsS105.alloc | apply IsS105.drewN | apply IsS105.drew | apply IsS105.set_1 | apply IsS105.set_2) | exact HI0.out)) hb); clear hb ho0))
    go_roundg k1
    case measure => have := HK1.out; omega
    case rel => exact ⟨(t1449), (wrap64 (x4_1 - 1)), (t1447), (t1448), (by first | rfl | (simp; done) | (simp [*]; done)), H', ⟨by have := HK1.out; omega⟩, ⟨by (with_reducible repeat (first | apply Kd.V_alloc | apply Kd.V_drewN | apply Kd.V_drew)); exact HO1451.out⟩, ⟨by repeat (first | (with_reducible first | exact HI0.out | apply IsS105.alloc | apply IsS105.drewN | apply IsS105.drew | apply IsS105.set_1 | apply IsS105.set_2) | exact HI0.out)⟩, ⟨by repeat (first | (with_reducible first | exact HK.out | apply KeepBut.set_ | apply keep_drewN | apply keep_drew | apply keep_alloc) | exact HK.out)⟩, ⟨by repeat (first | (with_reducible first | exact HB.out | apply below_alloc | apply pw_below_drewN | apply below_drew1 | refine below_set ?_ (IsS105.ge HI0.out)) | exact HB.out)⟩⟩
   rw [if_neg c4] at H
   have c4b0 : decide (0 < x4_1) = false := decide_eq_false c4
   clear c4
   replace H := Option.bind_eq_some_iff.mp H
   obtain ⟨⟨t1452, t1453, t1454⟩, A100, H⟩ := H
   replace H : (if t1452 = true then ((spec_l1Cur_among.f s0_0 t1453 t1454 (([(-1), 11, 12] : List Int))).bind fun bt1458 => ((spec_l1Put.f k1 x3_1 bt1458.1).bind fun t1461 => (some (t1461, bt1458.2.1, bt1458.2.2)))) else (some (x3_1, t1453, t1454))) = some (r1, r2, r3) := H
   have A10 := Aside0.mk A100
   clear A100
   by_cases c11 : t1452 = true
   rotate_left
   ·replace c11 := Bool.eq_false_iff.mpr c11
    subst c11
    rw [if_neg (show ¬ (false = true) by decide)] at H
    simp only [Option.some.injEq, Prod.mk.injEq] at H
    obtain ⟨rfl, rfl, rfl⟩ := H
    go_wp2_with (first | ((with_reducible refine gate_callee (f := 95) rfl ?_); refine goesL_ (some 16) rfl rfl Try.func95 (by kernel_rfl) rfl #[.pointer (some ⟨g, 0, none⟩), .int .i64 20] rfl tm_ ?_; (with_reducible refine (spec_l1Cur_one.calls g s0_0 x1001_1 x1002_1 20 false t1453 t1454 w0 _ ?side1 ?side2 A10.out).mono ?_); (case side1 => repeat (first | (with_reducible first | exact HI0.out | apply IsS105.alloc | apply IsS105.drewN | apply IsS105.drew | apply IsS105.set_1 | apply IsS105.set_2) | exact HI0.out)); (case side2 => repeat (first | (with_reducible first | exact HB.out | apply below_alloc | apply pw_below_drewN | apply below_drew1 | refine below_set ?_ (IsS105.ge HI0.out)) | exact HB.out)); rintro e w21 ⟨rfl, hi, hb, hk⟩; refine ⟨_, rfl, ?_⟩; replace HO_3 := Aside0.mk (Kd.V_mono (Kd.V_keep (Kd.V_mono (ok := fun k_ => (((w.heap.size ≤ k_)) ∧ k_ ≠ g)) (by (with_reducible repeat (first | apply Kd.V_alloc | apply Kd.V_drewN | apply Kd.V_drew)); exact HO_3.out) (fun k_ hk_ => (⟨hk_, hk_.2⟩ : _ ∧ k_ ≠ g))) hk (fun _ h => h.2)) (fun _ h => h.1)); replace HK := Aside0.mk (KeepBut.trans (by repeat (first | (with_reducible first | exact HK.out | apply KeepBut.set_ | apply keep_drewN | apply keep_drew | apply keep_alloc) | exact HK.out)) hk (.inl rfl)); replace HB := Aside0.mk (hb); replace HI0 := Aside0.mk (hi); clear hb hk hi))
    go_ret
    exact ⟨_, by first | rfl | (simp [errW_none, errW_some] <;> rfl) | (simp [*, errW_none, errW_some] <;> rfl), by (with_reducible repeat (first | apply Kd.V_alloc | apply Kd.V_drewN | apply Kd.V_drew)); exact Kd.V_mono HO_3.out (fun _ hk => hk.1), by repeat (first | (with_reducible first | exact HI0.out | apply IsS105.alloc | apply IsS105.drewN | apply IsS105.drew | apply IsS105.set_1 | apply IsS105.set_2) | exact HI0.out), by repeat (first | (with_reducible first | exact HB.out | apply below_alloc | apply pw_below_drewN | apply below_drew1 | refine below_set ?_ (IsS105.ge HI0.out)) | exact HB.out), by repeat (first | (with_reducible first | exact HK.out | apply KeepBut.set_ | apply keep_drewN | apply keep_drew | apply keep_alloc) | exact HK.out)⟩
   subst c11
   rw [if_pos rfl] at H
   obtain ⟨y1455, hy1455⟩ : ∃ y_ : List Int, y_ = (([(-1), 11, 12] : List Int)) := ⟨_, rfl⟩
   replace H : ((spec_l1Cur_among.f s0_0 t1453 t1454 y1455).bind fun bt1458 => ((spec_l1Put.f k1 x3_1 bt1458.1).bind fun t1461 => (some (t1461, bt1458.2.1, bt1458.2.2)))) = some (r1, r2, r3) := by first | (rw [hy1455]; with_reducible exact H) | (have H2_ := (Option.bind_some _ _).symm.trans H; rw [hy1455]; with_reducible exact H2_) | (have H2_ := (Option.bind_some _ _).symm.trans H; with_reducible exact H2_) | with_reducible exact H | (rw [hy1455]; exact H) | exact H
   have Ny1455 := Aside0.mk hy1455
   clear hy1455
   replace H := Option.bind_eq_some_iff.mp H
   obtain ⟨⟨t1458, t1459, t1460⟩, A120, H⟩ := H
   replace H : ((spec_l1Put.f k1 x3_1 t1458).bind fun t1461 => (some (t1461, t1459, t1460))) = some (r1, r2, r3) := H
   have A12 := Aside0.mk A120
   clear A120
   replace H := Option.bind_eq_some_iff.mp H
   obtain ⟨t1461, A130, H⟩ := H
   replace H : (some (t1461, t1459, t1460)) = some (r1, r2, r3) := H
   have A13 := Aside0.mk A130
   clear A130
   simp only [Option.some.injEq, Prod.mk.injEq] at H
   obtain ⟨rfl, rfl, rfl⟩ := H
   go_wp2_with (first | ((with_reducible refine gate_callee (f := 95) rfl ?_); refine goesL_ (some 16) rfl rfl Try.func95 (by kernel_rfl) rfl #[.pointer (some ⟨g, 0, none⟩), .int .i64 20] rfl tm_ ?_; (with_reducible refine (spec_l1Cur_one.calls g s0_0 x1001_1 x1002_1 20 true t1453 t1454 w0 _ ?side1 ?side2 A10.out).mono ?_); (case side1 => repeat (first | (with_reducible first | exact HI0.out | apply IsS105.alloc | apply IsS105.drewN | apply IsS105.drew | apply IsS105.set_1 | apply IsS105.set_2) | exact HI0.out)); (case side2 => repeat (first | (with_reducible first | exact HB.out | apply below_alloc | apply pw_below_drewN | apply below_drew1 | refine below_set ?_ (IsS105.ge HI0.out)) | exact HB.out)); rintro e w14 ⟨rfl, hi, hb, hk⟩; refine ⟨_, rfl, ?_⟩; replace HO_3 := Aside0.mk (Kd.V_mono (Kd.V_keep (Kd.V_mono (ok := fun k_ => (((w.heap.size ≤ k_)) ∧ k_ ≠ g)) (by (with_reducible repeat (first | apply Kd.V_alloc | apply Kd.V_drewN | apply Kd.V_drew)); exact HO_3.out) (fun k_ hk_ => (⟨hk_, hk_.2⟩ : _ ∧ k_ ≠ g))) hk (fun _ h => h.2)) (fun _ h => h.1)); replace HK := Aside0.mk (KeepBut.trans (by repeat (first | (with_reducible first | exact HK.out | apply KeepBut.set_ | apply keep_drewN | apply keep_drew | apply keep_alloc) | exact HK.out)) hk (.inl rfl)); replace HB := Aside0.mk (hb); replace HI0 := Aside0.mk (hi); clear hb hk hi) | ((with_reducible refine gate_dst (N := 19) rfl ?_); refine Kd.R_lit (Kd.int .i64) _ 3 ?hg (N := 19) ?hd (xs := ([(-1), 11, 12] : List Int)) (inner := [.int .i64 (-1), .int .i64 11, .int .i64 12]) (ok := fun _ => True) (okp := fun _ => True) ?hr ?hp (fun _ hk => hk) trivial (Below.refl _ _) (Nat.le_refl _) (by simp) ?_; (case hd => rfl); (case hg => rfl); (case hr => first | (go_simp; done) | (go_simp; rfl)); (case hp => exact (Reps.one (show Kd.M (Kd.int .i64) _ _ _ (-1) [.int .i64 (-1)] from rfl) (Reps.one (show Kd.M (Kd.int .i64) _ _ _ 11 [.int .i64 11] from rfl) (Reps.one (show Kd.M (Kd.int .i64) _ _ _ 12 [.int .i64 12] from rfl) (Reps.none _ _))))); intro v1456 w15 ho16 hb hg_ hnew_; clear hg_ hnew_; (first | rw [← Ny1455.out] at ho16 | (simp only [Int.reduceToNat] at ho16; rw [← Ny1455.out] at ho16)); have HO1457 := Aside0.mk (Kd.R_lower (Kd.R_newM (M := fun k_ => (w.heap.size ≤ k_)) ho16 (keep_size (w := w) (g := g) (row := none) (by repeat (first | (with_reducible first | exact HK.out | apply KeepBut.set_ | apply keep_drewN | apply keep_drew | apply keep_alloc) | exact HK.out))) (fun k_ h_ => h_)) (keep_size (w := w) (g := g) (row := none) (by repeat (first | (with_reducible first | exact HK.out | apply KeepBut.set_ | apply keep_drewN | apply keep_drew | apply keep_alloc) | exact HK.out)))); replace HO_3 := Aside0.mk (Kd.V_elder' (by (with_reducible repeat (first | apply Kd.V_alloc | apply Kd.V_drewN | apply Kd.V_drew)); exact HO_3.out) (Kd.R_base ho16) hb); replace HK := Aside0.mk (KeepBut.trans (by repeat (first | (with_reducible first | exact HK.out | apply KeepBut.set_ | apply keep_drewN | apply keep_drew | apply keep_alloc) | exact HK.out)) (KeepBut.of_below hb g none) (.inl rfl)); replace HB := Aside0.mk (below_step (by repeat (first | (with_reducible first | exact HB.out | apply below_alloc | apply pw_below_drewN | apply below_drew1 | refine below_set ?_ (IsS105.ge HI0.out)) | exact HB.out)) hb); replace HI0 := Aside0.mk (IsS105.below (by repeat (first | (with_reducible first | exact HI0.out | apply IsS105.alloc | apply IsS105.drewN | apply IsS105.drew | apply IsS105.set_1 | apply IsS105.set_2) | exact HI0.out)) hb); clear hb ho16; obtain ⟨Ao17, co17, eo17⟩ := Kd.R_slice HO1457.out; subst eo17) | ((with_reducible refine gate_callee (f := 113) rfl ?_); refine goesL_ (some 20) rfl rfl Try.func113 (by kernel_rfl) rfl #[.pointer (some ⟨g, 0, none⟩), .slice Ao17 y1455.length co17] rfl tm_ ?_; (with_reducible refine (spec_l1Cur_among.calls g s0_0 t1453 t1454 _ _ y1455 t1458 t1459 t1460 w0 _ ?side1 ?side2 ?side3 ?side4 ?side5 A12.out).mono ?_); (case side1 => repeat (first | (with_reducible first | exact HI0.out | apply IsS105.alloc | apply IsS105.drewN | apply IsS105.drew | apply IsS105.set_1 | apply IsS105.set_2) | exact HI0.out)); (case side2 => repeat (first | (with_reducible first | exact HB.out | apply below_alloc | apply pw_below_drewN | apply below_drew1 | refine below_set ?_ (IsS105.ge HI0.out)) | exact HB.out)); (case side3 => exact ca (Kd.R_reads' HO1457.out).2.2); (case side4 => exact (Kd.R_reads' HO1457.out).2.1); (case side5 => exact far_slice (IsS105.own_ne HI0.out HO1457.out (by decide))); rintro e w18 ⟨rfl, hi, hb, hk⟩; refine ⟨_, rfl, ?_⟩; replace HO_3 := Aside0.mk (Kd.V_mono (Kd.V_keep (Kd.V_mono (ok := fun k_ => ((((w.heap.size ≤ k_)) ∧ k_ ≠ g) ∧ no_ (.slice Ao17 y1455.length co17) k_)) (by (with_reducible repeat (first | apply Kd.V_alloc | apply Kd.V_drewN | apply Kd.V_drew)); exact HO_3.out) (fun k_ hk_ => (⟨hk_, hk_.1.2⟩ : _ ∧ k_ ≠ g))) hk (fun _ h => h.2)) (fun _ h => h.1)); replace HO1457 := Aside0.mk (Kd.R_mono (Kd.R_keep (IsS105.apart (show IsS105 w0 _ g s0_0 t1453 t1454 from by repeat (first | (with_reducible first | exact HI0.out | apply IsS105.alloc | apply IsS105.drewN | apply IsS105.drew | apply IsS105.set_1 | apply IsS105.set_2) | exact HI0.out)) (ra HO1457.out) (by decide)) hk (fun _ h => h.2)) (fun _ h => h.1)); replace HK := Aside0.mk (KeepBut.trans (by repeat (first | (with_reducible first | exact HK.out | apply KeepBut.set_ | apply keep_drewN | apply keep_drew | apply keep_alloc) | exact HK.out)) hk (.inl rfl)); replace HB := Aside0.mk (hb); replace HI0 := Aside0.mk (hi); clear hb hk hi; obtain ⟨Ao19, co19, eo19⟩ := Kd.V_slice HO_3.out; subst eo19) | ((with_reducible refine gate_callee (f := 108) rfl ?_); refine goesL_ (some 21) rfl rfl Try.func108 (by kernel_rfl) rfl #[.slice Ao19 x3_1.length co19, .int .i64 t1458] rfl tm_ ?_; (with_reducible refine (spec_l1Put.calls k1 (fun k_ => (((w.heap.size ≤ k_) ∧ k_ ≠ g) ∧ no_ (.slice Ao17 y1455.length co17) k_)) _ _ x3_1 t1458 t1461 _ ?side1 A13.out).mono ?_); (case side1 => exact HO_3.out); rintro e w20 ⟨v1462, rfl, ho0, hb⟩; refine ⟨_, rfl, ?_⟩; have HO1463 := Aside0.mk (Kd.V_lower (Kd.V_mono (ok' := fun k_ => (w.heap.size ≤ k_) ∧ no_ (.slice Ao17 y1455.length co17) k_ ∧ k_ ≠ g) ho0 (fun k_ hk_ => ⟨Or.elim hk_ (fun hs_ => hs_.1.1) (fun hn_ => (Nat.le_trans (keep_size (w := w) (g := g) (row := none) (by repeat (first | (with_reducible first | exact HK.out | apply KeepBut.set_ | apply keep_drewN | apply keep_drew | apply keep_alloc) | exact HK.out))) hn_)), Or.elim hk_ (fun hs_ => hs_.2) (fun hn_ => (Kd.fresh' (rl_ HO1457) k_ hn_)), Or.elim hk_ (fun hs_ => hs_.1.2) (fun hn_ => (IsS105.fresh (by repeat (first | (with_reducible first | exact HI0.out | apply IsS105.alloc | apply IsS105.drewN | apply IsS105.drew | apply IsS105.set_1 | apply IsS105.set_2) | exact HI0.out)) k_ hn_))⟩)) (keep_size (w := w) (g := g) (row := none) (by repeat (first | (with_reducible first | exact HK.out | apply KeepBut.set_ | apply keep_drewN | apply keep_drew | apply keep_alloc) | exact HK.out)))); replace HO_3 := Aside0.mk (Kd.V_below (by (with_reducible repeat (first | apply Kd.V_alloc | apply Kd.V_drewN | apply Kd.V_drew)); exact HO_3.out) hb); replace HO1457 := rb_ HO1457 hb; replace HK := Aside0.mk (KeepBut.trans (by repeat (first | (with_reducible first | exact HK.out | apply KeepBut.set_ | apply keep_drewN | apply keep_drew | apply keep_alloc) | exact HK.out)) (KeepBut.of_below hb g none) (.inl rfl)); replace HB := Aside0.mk (below_step (by repeat (first | (with_reducible first | exact HB.out | apply below_alloc | apply pw_below_drewN | apply below_drew1 | refine below_set ?_ (IsS105.ge HI0.out)) | exact HB.out)) hb); replace HI0 := Aside0.mk (IsS105.below (by repeat (first | (with_reducible first | exact HI0.out | apply IsS105.alloc | apply IsS105.drewN | apply IsS105.drew | apply IsS105.set_1 | apply IsS105.set_2) | exact HI0.out)) hb); clear hb ho0))
   go_ret
   exact ⟨_, by first | rfl | (simp [errW_none, errW_some] <;> rfl) | (simp [*, errW_none, errW_some] <;> rfl), by (with_reducible repeat (first | apply Kd.V_alloc | apply Kd.V_drewN | apply Kd.V_drew)); exact Kd.V_mono HO1463.out (fun _ hk => hk.1), by repeat (first | (with_reducible first | exact HI0.out | apply IsS105.alloc | apply IsS105.drewN | apply IsS105.drew | apply IsS105.set_1 | apply IsS105.set_2) | exact HI0.out), by repeat (first | (with_reducible first | exact HB.out | apply below_alloc | apply pw_below_drewN | apply below_drew1 | refine below_set ?_ (IsS105.ge HI0.out)) | exact HB.out), by repeat (first | (with_reducible first | exact HK.out | apply KeepBut.set_ | apply keep_drewN | apply keep_drew | apply keep_alloc) | exact HK.out)⟩

def spec_DrawJoinSpot.f (k : Nat) (l0 : List Int) : Option (List Int × Int) := (slices_xorshift_Next.f l0).bind fun bt1464 => ((spec_l1Cur_wants.f k bt1464.1 bt1464.2.1 bt1464.2.2).bind fun bt1468 => ((spec_l1Cur_pick.f bt1464.1 bt1468.2.1 bt1468.2.2 14).bind fun bt1473 => (some (bt1468.1, wrap64 (bt1473.1 - 1)))))
theorem spec_DrawJoinSpot.mono : ∀ a0 k, LeO (spec_DrawJoinSpot.f k a0) (spec_DrawJoinSpot.f (k + 1) a0) := by
 intro a0 k
 unfold spec_DrawJoinSpot.f
 repeat' first
   | (with_reducible exact spec_l1Cur_wants.mono _ _ _ _)
   | (with_reducible exact LeO.refl _)
   | (with_reducible exact LeO.none _)
   | (with_reducible refine LeO.ite ?_ ?_)
   | (with_reducible refine LeO.bind ?_ (fun _ => ?_))
set_option maxHeartbeats 8000000 in
set_option maxRecDepth 100000 in
theorem spec_DrawJoinSpot.calls (k : Nat) (A0 : Option Addr) (c0 : Nat) (l0 : List Int) (r1 : List Int) (r2 : Int) (w : World) (hr0 : Kd.C (Kd.int .u8) w A0 l0.length l0) (hc0 : l0.length ≤ c0) (h : spec_DrawJoinSpot.f k l0 = some (r1, r2)) :
  Calls Try.prog 47 #[.slice A0 l0.length c0] w fun e w' => ∃ v0_ : Value, e = .returned (.tuple #[v0_, .int .i64 r2]) ∧ Kd.V (Kd.int .i64) 3 w' w.heap.size (fun k_ => (w.heap.size ≤ k_)) v0_ r1 ∧ Below w.heap.size w w' := by
 have HR0 := Aside0.mk hr0
 have HC0 := Aside0.mk hc0
 clear hr0 hc0
 have HB := Aside0.mk (Below.refl w.heap.size w)
 have H : ((slices_xorshift_Next.f l0).bind fun bt1464 => ((spec_l1Cur_wants.f k bt1464.1 bt1464.2.1 bt1464.2.2).bind fun bt1468 => ((spec_l1Cur_pick.f bt1464.1 bt1468.2.1 bt1468.2.2 14).bind fun bt1473 => (some (bt1468.1, wrap64 (bt1473.1 - 1)))))) = some (r1, r2) := h
 clear h
 replace H := Option.bind_eq_some_iff.mp H
 obtain ⟨⟨t1464, t1465, t1466⟩, A20, H⟩ := H
 replace H : ((spec_l1Cur_wants.f k t1464 t1465 t1466).bind fun bt1468 => ((spec_l1Cur_pick.f t1464 bt1468.2.1 bt1468.2.2 14).bind fun bt1473 => (some (bt1468.1, wrap64 (bt1473.1 - 1))))) = some (r1, r2) := H
 have DE_A2 : Aside0 (t1464 = l0 ∧ t1465 = 0 ∧ t1466 = 0) := ⟨by have h_ := A20; simp only [slices_xorshift_Next.f, Option.some.injEq, Prod.mk.injEq] at h_; exact ⟨h_.1.symm, h_.2.1.symm, h_.2.2.symm⟩⟩
 have A2 := Aside0.mk A20
 clear A20
 replace H := Option.bind_eq_some_iff.mp H
 obtain ⟨⟨t1468, t1471, t1472⟩, A30, H⟩ := H
 replace H : ((spec_l1Cur_pick.f t1464 t1471 t1472 14).bind fun bt1473 => (some (t1468, wrap64 (bt1473.1 - 1)))) = some (r1, r2) := H
 have A3 := Aside0.mk A30
 clear A30
 replace H := Option.bind_eq_some_iff.mp H
 obtain ⟨⟨t1473, t1474, t1475⟩, A40, H⟩ := H
 replace H : (some (t1468, wrap64 (t1473 - 1))) = some (r1, r2) := H
 have A4 := Aside0.mk A40
 clear A40
 simp only [Option.some.injEq, Prod.mk.injEq] at H
 obtain ⟨rfl, rfl⟩ := H
 go_enter Try.func47, Try.ntmps47
 go_wp2_with (first | ((with_reducible refine gate_dst (N := 7) rfl ?_); refine box_event ?hg (N := 7) ?hd (cs := #[.slice A0 l0.length c0, .int .i64 0, .int .u64 0]) (t := 105) ?hr ?_; (case hd => rfl); (case hg => rfl); (case hr => first | (go_simp; done) | (go_simp; rfl)); intro g1467 hg w5 hbox hb2; have hi : IsS105 w w5 g1467 t1464 t1465 t1466 := (by rw [DE_A2.out.1, DE_A2.out.2.1, DE_A2.out.2.2]; exact ⟨_, _, hbox, (gw_ hg HB).out, HR0.out⟩); have hb := (bst_ HB hb2).out; clear hg hbox; have HI1467 := Aside0.mk (hi); replace HB := Aside0.mk (hb); clear hb hb2 hi) | ((with_reducible refine gate_callee (f := 105) rfl ?_); refine goesL_ (some 9) rfl rfl Try.func105 (by kernel_rfl) rfl #[.pointer (some ⟨g1467, 0, none⟩)] rfl tm_ ?_; (with_reducible refine (spec_l1Cur_wants.calls k g1467 t1464 t1465 t1466 t1468 t1471 t1472 w _ ?side1 ?side2 A3.out).mono ?_); (case side1 => repeat (first | (with_reducible first | exact HI1467.out | apply IsS105.alloc | apply IsS105.drewN | apply IsS105.drew | apply IsS105.set_1 | apply IsS105.set_2) | exact HI1467.out)); (case side2 => repeat (first | (with_reducible first | exact HB.out | apply below_alloc | apply pw_below_drewN | apply below_drew1 | refine below_set ?_ (IsS105.ge HI1467.out)) | exact HB.out)); rintro e w6 ⟨v1469, rfl, ho0, hi, hb, hk⟩; refine ⟨_, rfl, ?_⟩; have HO1470 := Aside0.mk (Kd.V_lower (Kd.V_mono (ok' := fun k_ => (w.heap.size ≤ k_) ∧ k_ ≠ g1467) ho0 (fun k_ hk_ => ⟨(Nat.le_trans (below_size (by repeat (first | (with_reducible first | exact HB.out | apply below_alloc | apply pw_below_drewN | apply below_drew1 | refine below_set ?_ (IsS105.ge HI1467.out)) | exact HB.out))) hk_), (IsS105.fresh (by repeat (first | (with_reducible first | exact HI1467.out | apply IsS105.alloc | apply IsS105.drewN | apply IsS105.drew | apply IsS105.set_1 | apply IsS105.set_2) | exact HI1467.out)) k_ hk_)⟩)) (below_size (by repeat (first | (with_reducible first | exact HB.out | apply below_alloc | apply pw_below_drewN | apply below_drew1 | refine below_set ?_ (IsS105.ge HI1467.out)) | exact HB.out)))); replace HB := Aside0.mk (hb); replace HI1467 := Aside0.mk (hi); clear hb hk hi ho0) | ((with_reducible refine gate_callee (f := 94) rfl ?_); refine goesL_ (some 11) rfl rfl Try.func94 (by kernel_rfl) rfl #[.pointer (some ⟨g1467, 0, none⟩), .int .i64 14] rfl tm_ ?_; (with_reducible refine (spec_l1Cur_pick.calls g1467 t1464 t1471 t1472 14 t1473 t1474 t1475 w _ ?side1 ?side2 A4.out).mono ?_); (case side1 => repeat (first | (with_reducible first | exact HI1467.out | apply IsS105.alloc | apply IsS105.drewN | apply IsS105.drew | apply IsS105.set_1 | apply IsS105.set_2) | exact HI1467.out)); (case side2 => repeat (first | (with_reducible first | exact HB.out | apply below_alloc | apply pw_below_drewN | apply below_drew1 | refine below_set ?_ (IsS105.ge HI1467.out)) | exact HB.out)); rintro e w7 ⟨rfl, hi, hb, hk⟩; refine ⟨_, rfl, ?_⟩; replace HO1470 := Aside0.mk (Kd.V_mono (Kd.V_keep (Kd.V_mono (ok := fun k_ => (((w.heap.size ≤ k_)) ∧ k_ ≠ g1467)) (by (with_reducible repeat (first | apply Kd.V_alloc | apply Kd.V_drewN | apply Kd.V_drew)); exact HO1470.out) (fun k_ hk_ => (⟨hk_, hk_.2⟩ : _ ∧ k_ ≠ g1467))) hk (fun _ h => h.2)) (fun _ h => h.1)); replace HB := Aside0.mk (hb); replace HI1467 := Aside0.mk (hi); clear hb hk hi))
 go_ret2
 exact ⟨_, by first | rfl | (simp [errW_none, errW_some] <;> rfl) | (simp [*, errW_none, errW_some] <;> rfl), by (with_reducible repeat (first | apply Kd.V_alloc | apply Kd.V_drewN | apply Kd.V_drew)); exact Kd.V_mono HO1470.out (fun _ hk => hk.1), by repeat (first | (with_reducible first | exact HB.out | apply below_alloc | apply pw_below_drewN | apply below_drew1 | refine below_set ?_ (IsS105.ge HI1467.out)) | exact HB.out)⟩

def impl_isSpot.f (a0 : Int) : Option (Bool) := (impl_in.f a0 0 11).bind fun t1476 => (some t1476)
set_option maxHeartbeats 8000000 in
set_option maxRecDepth 100000 in
theorem impl_isSpot.calls (a0 : Int) (r : Bool) (w : World) (h : impl_isSpot.f a0 = some r) :
  Calls Try.prog 106 #[.int .i64 a0] w fun e w' => e = .returned (.bool r) ∧ Drawn0 w w' := by
 have H : ((impl_in.f a0 0 11).bind fun t1476 => (some t1476)) = some r := h
 clear h
 replace H := Option.bind_eq_some_iff.mp H
 obtain ⟨t1476, A20, H⟩ := H
 replace H : (some t1476) = some r := H
 have A2 := Aside0.mk A20
 clear A20
 obtain rfl := Option.some.inj H
 go_enter Try.func106, Try.ntmps106
 go_wp2_with (first | ((with_reducible refine gate_callee (f := 84) rfl ?_); refine goesL_ (some 4) rfl rfl Try.func84 (by kernel_rfl) rfl #[.int .i64 a0, .int .i64 0, .int .i64 11] rfl tm_ ?_; (with_reducible refine (impl_in.calls a0 0 11 t1476 _ A2.out).mono ?_); rintro e w' ⟨rfl, ⟨nd, rfl⟩⟩; refine ⟨_, rfl, ?_⟩))
 go_ret
 exact ⟨by first | rfl | (simp; done) | (simp [*]; done), by repeat (first | exact Drawn0.refl _ | apply Drawn0.step)⟩

def slices_isNaN_int.f (a0 : Int) : Option (Bool) := some (a0 != a0)
set_option maxHeartbeats 8000000 in
set_option maxRecDepth 100000 in
theorem slices_isNaN_int.calls (a0 : Int) (r : Bool) (w : World) (h : slices_isNaN_int.f a0 = some r) :
  Calls Try.prog 151 #[.int .i64 a0] w fun e w' => e = .returned (.bool r) ∧ Drawn0 w w' := by
 have H : (some (a0 != a0)) = some r := h
 clear h
 obtain rfl := Option.some.inj H
 go_enter Try.func151, Try.ntmps151
 go_wp2
 go_ret
 exact ⟨by first | rfl | (simp; done) | (simp [*]; done), by repeat (first | exact Drawn0.refl _ | apply Drawn0.step)⟩

def slices_BinarySearch_int_int.l0 : Nat → List Int → Int → Int → Int → Int → Option (Int × Bool)
 | 0, _, _, _, _, _ => none
 | k + 1, x0, x1, x6, x7, x8 => if x7 < x8 then (if 0 ≤ (wrap64 ((IntKind.u64.wrap (wrap64 (x7 + x8))) / 2)) then (if (wrap64 ((IntKind.u64.wrap (wrap64 (x7 + x8))) / 2)) < (x0.length : Int) then ((cmp_Less_int.f (rd x0 (wrap64 ((IntKind.u64.wrap (wrap64 (x7 + x8))) / 2))) x1).bind fun t1478 => (if t1478 = true then (slices_BinarySearch_int_int.l0 k x0 x1 x6 (wrap64 ((wrap64 ((IntKind.u64.wrap (wrap64 (x7 + x8))) / 2)) + 1)) x8) else (slices_BinarySearch_int_int.l0 k x0 x1 x6 x7 (wrap64 ((IntKind.u64.wrap (wrap64 (x7 + x8))) / 2))))) else (none)) else (none)) else (if x7 < x6 then (if 0 ≤ x7 then (if x7 < (x0.length : Int) then (if (rd x0 x7) = x1 then (some (x7, true)) else ((slices_isNaN_int.f (rd x0 x7)).bind fun t1481 => (if t1481 = true then ((slices_isNaN_int.f x1).bind fun t1482 => (some (x7, t1482))) else (some (x7, false))))) else (none)) else (none)) else (some (x7, false)))
def slices_BinarySearch_int_int.f (k : Nat) (l0 : List Int) (a1 : Int) : Option (Int × Bool) := slices_BinarySearch_int_int.l0 k l0 a1 (l0.length : Int) 0 (l0.length : Int)
theorem slices_BinarySearch_int_int.mono_l : ∀ k, (∀ y0 y1 y2 y3 y4, LeO (slices_BinarySearch_int_int.l0 k y0 y1 y2 y3 y4) (slices_BinarySearch_int_int.l0 (k + 1) y0 y1 y2 y3 y4))
 | 0 => fun _ _ _ _ _ r h => by simp [slices_BinarySearch_int_int.l0] at h
 | k + 1 => by
  have ih0 := slices_BinarySearch_int_int.mono_l k
  ·intro y0 y1 y2 y3 y4
   unfold slices_BinarySearch_int_int.l0
   repeat' first
   | (with_reducible exact ih0 _ _ _ _ _)
   | (with_reducible exact LeO.refl _)
   | (with_reducible exact LeO.none _)
   | (with_reducible refine LeO.ite ?_ ?_)
   | (with_reducible refine LeO.bind ?_ (fun _ => ?_))
theorem slices_BinarySearch_int_int.mono : ∀ a0 a1 k, LeO (slices_BinarySearch_int_int.f k a0 a1) (slices_BinarySearch_int_int.f (k + 1) a0 a1) := by
 intro a0 a1 k
 have ih0 := slices_BinarySearch_int_int.mono_l k
 unfold slices_BinarySearch_int_int.f
 repeat' first
   | (with_reducible exact ih0 _ _ _ _ _)
   | (with_reducible exact LeO.refl _)
   | (with_reducible exact LeO.none _)
   | (with_reducible refine LeO.ite ?_ ?_)
   | (with_reducible refine LeO.bind ?_ (fun _ => ?_))
set_option maxHeartbeats 8000000 in
set_option maxRecDepth 100000 in
theorem slices_BinarySearch_int_int.calls (k : Nat) (A0 : Option Addr) (c0 : Nat) (l0 : List Int) (a1 : Int) (r1 : Int) (r2 : Bool) (w : World) (hr0 : Kd.C (Kd.int .i64) w A0 l0.length l0) (hc0 : l0.length ≤ c0) (h : slices_BinarySearch_int_int.f k l0 a1 = some (r1, r2)) :
  Calls Try.prog 137 #[.slice A0 l0.length c0, .int .i64 a1] w fun e w' => e = .returned (.tuple #[.int .i64 r1, .bool r2]) ∧ Drawn0 w w' := by
 have HR0 := Aside0.mk hr0
 have HC0 := Aside0.mk hc0
 clear hr0 hc0
 have H : (slices_BinarySearch_int_int.l0 k l0 a1 (l0.length : Int) 0 (l0.length : Int)) = some (r1, r2) := h
 clear h
 have H' := Aside0.mk H
 clear H
 go_enter Try.func137, Try.ntmps137
 go_wp2
 go_loopg [7, 8] k (fun kq v7 v8 w' => ∃ (x7_1 : Int) (x8_1 : Int), v7 = .int .i64 x7_1 ∧ v8 = .int .i64 x8_1 ∧ Aside0 (slices_BinarySearch_int_int.l0 kq l0 a1 (l0.length : Int) x7_1 x8_1 = some (r1, r2)) ∧ Aside0 (kq ≤ k) ∧ Drawn0 w w')
 case atStart => exact ⟨(0), ((l0.length : Int)), (by first | rfl | (simp; done) | (simp [*]; done)), (by first | rfl | (simp; done) | (simp [*]; done)), H', ⟨Nat.le_refl _⟩, by repeat (first | exact Drawn0.refl _ | apply Drawn0.step)⟩
 case round =>
  clear H'
  obtain ⟨x7_1, x8_1, rfl, rfl, HA, HK1, ⟨m1, rfl⟩⟩ := hrel
  cases gk with
  | zero => exact absurd HA.out (by simp [slices_BinarySearch_int_int.l0])
  | succ k1 =>
   have H := HA.out
   clear HA
   simp only [slices_BinarySearch_int_int.l0] at H
   by_cases c3 : x7_1 < x8_1
   ·rw [if_pos c3] at H
    have c3b0 : decide (x7_1 < x8_1) = true := decide_eq_true c3
    clear c3
    obtain ⟨ji4, hji4⟩ : ∃ j_ : Int, (wrap64 ((IntKind.u64.wrap (wrap64 (x7_1 + x8_1))) / 2)) = j_ := ⟨_, rfl⟩
    replace H : (if 0 ≤ (ji4) then (if (ji4) < (l0.length : Int) then ((cmp_Less_int.f (rd l0 (ji4)) a1).bind fun t1478 => (if t1478 = true then (slices_BinarySearch_int_int.l0 k1 l0 a1 (l0.length : Int) (wrap64 ((ji4) + 1)) x8_1) else (slices_BinarySearch_int_int.l0 k1 l0 a1 (l0.length : Int) x7_1 ji4))) else (none)) else (none)) = some (r1, r2) := by first | (rw [hji4] at H; exact H) | (simp only [hji4] at H ⊢; exact H)
    have hji4w : (IntKind.i64.wrap ((IntKind.u64.wrap (wrap64 (x7_1 + x8_1))) / 2)) = ji4 := (i64_w _).trans hji4
    by_cases c5 : 0 ≤ (ji4)
    rotate_left
    ·rw [if_neg c5] at H
     exact absurd H (by simp)
    rw [if_pos c5] at H
    have c5b0 : decide (0 ≤ (ji4)) = true := decide_eq_true c5
    clear c5
    by_cases c6 : (ji4) < (l0.length : Int)
    rotate_left
    ·rw [if_neg c6] at H
     exact absurd H (by simp)
    rw [if_pos c6] at H
    have c6b0 : decide ((ji4) < (l0.length : Int)) = true := decide_eq_true c6
    clear c6
    replace H := Option.bind_eq_some_iff.mp H
    obtain ⟨t1478, A70, H⟩ := H
    replace H : (if t1478 = true then (slices_BinarySearch_int_int.l0 k1 l0 a1 (l0.length : Int) (wrap64 ((ji4) + 1)) x8_1) else (slices_BinarySearch_int_int.l0 k1 l0 a1 (l0.length : Int) x7_1 ji4)) = some (r1, r2) := H
    have A7 := Aside0.mk A70
    clear A70
    by_cases c8 : t1478 = true
    ·subst c8
     rw [if_pos rfl] at H
     have H' := Aside0.mk H
     clear H
     have p1477 : 0 ≤ ((ji4) : Int) := of_decide_eq_true (by first | (with_reducible assumption) | assumption)
     have q1477 : (ji4) < (l0.length : Int) := of_decide_eq_true (by first | (with_reducible assumption) | assumption)
     obtain ⟨ad1477, e1477, hx1477_0⟩ := Kd.at_int HR0.out (ji4) p1477 q1477
     cases e1477
     replace p1477 := eq_true p1477
     replace q1477 := eq_true q1477
     go_wp2_with (first | ((with_reducible refine gate_callee (f := 150) rfl ?_); refine goesL_ (some 27) rfl rfl Try.func150 (by kernel_rfl) rfl #[.int .i64 (rd l0 (ji4)), .int .i64 a1] rfl (by (try simp only [List.map_toArray, List.map_cons, List.map_nil]); first | done | (simp only [hji4]; rfl) | rfl | (simp only [List.length_drop, List.length_take]; rfl)) ?_; (with_reducible refine (cmp_Less_int.calls (rd l0 (ji4)) a1 true _ A7.out).mono ?_); rintro e w' ⟨rfl, ⟨nd, rfl⟩⟩; refine ⟨_, rfl, ?_⟩))
     go_roundg k1
     case measure => have := HK1.out; omega
     case rel => exact ⟨(wrap64 ((ji4) + 1)), (x8_1), (by first | rfl | (simp; done) | (simp only [← hji4] <;> (first | rfl | simp)) | (simp [*]; done)), (by first | rfl | (simp; done) | (simp [*]; done)), H', ⟨by have := HK1.out; omega⟩, by repeat (first | exact Drawn0.refl _ | apply Drawn0.step)⟩
    replace c8 := Bool.eq_false_iff.mpr c8
    subst c8
    rw [if_neg (show ¬ (false = true) by decide)] at H
    have H' := Aside0.mk H
    clear H
    have p1477 : 0 ≤ ((ji4) : Int) := of_decide_eq_true (by first | (with_reducible assumption) | assumption)
    have q1477 : (ji4) < (l0.length : Int) := of_decide_eq_true (by first | (with_reducible assumption) | assumption)
    obtain ⟨ad1477, e1477, hx1477_0⟩ := Kd.at_int HR0.out (ji4) p1477 q1477
    cases e1477
    replace p1477 := eq_true p1477
    replace q1477 := eq_true q1477
    go_wp2_with (first | ((with_reducible refine gate_callee (f := 150) rfl ?_); refine goesL_ (some 27) rfl rfl Try.func150 (by kernel_rfl) rfl #[.int .i64 (rd l0 (ji4)), .int .i64 a1] rfl (by (try simp only [List.map_toArray, List.map_cons, List.map_nil]); first | done | (simp only [hji4]; rfl) | rfl | (simp only [List.length_drop, List.length_take]; rfl)) ?_; (with_reducible refine (cmp_Less_int.calls (rd l0 (ji4)) a1 false _ A7.out).mono ?_); rintro e w' ⟨rfl, ⟨nd, rfl⟩⟩; refine ⟨_, rfl, ?_⟩))
    go_roundg k1
    case measure => have := HK1.out; omega
    case rel => exact ⟨(x7_1), (ji4), (by first | rfl | (simp; done) | (simp [*]; done)), (by first | rfl | (simp; done) | (simp only [← hji4] <;> (first | rfl | simp)) | (simp [*]; done)), H', ⟨by have := HK1.out; omega⟩, by repeat (first | exact Drawn0.refl _ | apply Drawn0.step)⟩
   rw [if_neg c3] at H
   have c3b0 : decide (x7_1 < x8_1) = false := decide_eq_false c3
   clear c3
   by_cases c9 : x7_1 < (l0.length : Int)
   rotate_left
   ·rw [if_neg c9] at H
    have c9b0 : decide (x7_1 < (l0.length : Int)) = false := decide_eq_false c9
    clear c9
    simp only [Option.some.injEq, Prod.mk.injEq] at H
    obtain ⟨rfl, rfl⟩ := H
    go_wp2
    go_ret2
    exact ⟨by first | rfl | (simp; done) | (simp [*]; done), by repeat (first | exact Drawn0.refl _ | apply Drawn0.step)⟩
   rw [if_pos c9] at H
   have c9b0 : decide (x7_1 < (l0.length : Int)) = true := decide_eq_true c9
   clear c9
   by_cases c10 : 0 ≤ x7_1
   rotate_left
   ·rw [if_neg c10] at H
    exact absurd H (by simp)
   rw [if_pos c10] at H
   have c10b0 : decide (0 ≤ x7_1) = true := decide_eq_true c10
   clear c10
   by_cases c11 : x7_1 < (l0.length : Int)
   rotate_left
   ·rw [if_neg c11] at H
    exact absurd H (by simp)
   rw [if_pos c11] at H
   have c11b0 : decide (x7_1 < (l0.length : Int)) = true := decide_eq_true c11
   clear c11
   by_cases c12 : (rd l0 x7_1) = a1
   ·rw [if_pos c12] at H
    have c12b0 : ((rd l0 x7_1) == a1) = true := beq_iff_eq.mpr c12
    have c12b1 : ((rd l0 x7_1) != a1) = false := bne_eq_false_iff_eq.mpr c12
    clear c12
    simp only [Option.some.injEq, Prod.mk.injEq] at H
    obtain ⟨rfl, rfl⟩ := H
    have p1479 : 0 ≤ (x7_1 : Int) := of_decide_eq_true (by first | (with_reducible assumption) | assumption)
    have q1479 : x7_1 < (l0.length : Int) := of_decide_eq_true (by first | (with_reducible assumption) | assumption)
    obtain ⟨ad1479, e1479, hx1479_0⟩ := Kd.at_int HR0.out x7_1 p1479 q1479
    cases e1479
    replace p1479 := eq_true p1479
    replace q1479 := eq_true q1479
    go_wp2
    go_ret2
    exact ⟨by first | rfl | (simp; done) | (simp [*]; done), by repeat (first | exact Drawn0.refl _ | apply Drawn0.step)⟩
   rw [if_neg c12] at H
   have c12b0 : ((rd l0 x7_1) == a1) = false := beq_eq_false_iff_ne.mpr c12
   have c12b1 : ((rd l0 x7_1) != a1) = true := bne_iff_ne.mpr c12
   replace H := Option.bind_eq_some_iff.mp H
   obtain ⟨t1481, A130, H⟩ := H
   replace H : (if t1481 = true then ((slices_isNaN_int.f a1).bind fun t1482 => (some (x7_1, t1482))) else (some (x7_1, false))) = some (r1, r2) := H
   have A13 := Aside0.mk A130
   clear A130
   by_cases c14 : t1481 = true
   rotate_left
   ·replace c14 := Bool.eq_false_iff.mpr c14
    subst c14
    rw [if_neg (show ¬ (false = true) by decide)] at H
    simp only [Option.some.injEq, Prod.mk.injEq] at H
    obtain ⟨rfl, rfl⟩ := H
    have p1479 : 0 ≤ (x7_1 : Int) := of_decide_eq_true (by first | (with_reducible assumption) | assumption)
    have q1479 : x7_1 < (l0.length : Int) := of_decide_eq_true (by first | (with_reducible assumption) | assumption)
    obtain ⟨ad1479, e1479, hx1479_0⟩ := Kd.at_int HR0.out x7_1 p1479 q1479
    cases e1479
    replace p1479 := eq_true p1479
    replace q1479 := eq_true q1479
    have p1480 : 0 ≤ (x7_1 : Int) := of_decide_eq_true (by first | (with_reducible assumption) | assumption)
    have q1480 : x7_1 < (l0.length : Int) := of_decide_eq_true (by first | (with_reducible assumption) | assumption)
    obtain ⟨ad1480, e1480, hx1480_0⟩ := Kd.at_int HR0.out x7_1 p1480 q1480
    obtain rfl : ad1479 = ad1480 := (by injection e1480)
    replace p1480 := eq_true p1480
    replace q1480 := eq_true q1480
    go_wp2_with (first | (go_at_call 151; (with_reducible refine (slices_isNaN_int.calls (rd l0 x7_1) false _ A13.out).mono ?_); rintro e w' ⟨rfl, ⟨nd, rfl⟩⟩))
    go_ret2
    exact ⟨by first | rfl | (simp; done) | (simp [*]; done), by repeat (first | exact Drawn0.refl _ | apply Drawn0.step)⟩
   subst c14
   rw [if_pos rfl] at H
   replace H := Option.bind_eq_some_iff.mp H
   obtain ⟨t1482, A150, H⟩ := H
   replace H : (some (x7_1, t1482)) = some (r1, r2) := H
   have A15 := Aside0.mk A150
   clear A150
   simp only [Option.some.injEq, Prod.mk.injEq] at H
   obtain ⟨rfl, rfl⟩ := H
   have p1479 : 0 ≤ (x7_1 : Int) := of_decide_eq_true (by first | (with_reducible assumption) | assumption)
   have q1479 : x7_1 < (l0.length : Int) := of_decide_eq_true (by first | (with_reducible assumption) | assumption)
   obtain ⟨ad1479, e1479, hx1479_0⟩ := Kd.at_int HR0.out x7_1 p1479 q1479
   cases e1479
   replace p1479 := eq_true p1479
   replace q1479 := eq_true q1479
   have p1480 : 0 ≤ (x7_1 : Int) := of_decide_eq_true (by first | (with_reducible assumption) | assumption)
   have q1480 : x7_1 < (l0.length : Int) := of_decide_eq_true (by first | (with_reducible assumption) | assumption)
   obtain ⟨ad1480, e1480, hx1480_0⟩ := Kd.at_int HR0.out x7_1 p1480 q1480
   obtain rfl : ad1479 = ad1480 := (by injection e1480)
   replace p1480 := eq_true p1480
   replace q1480 := eq_true q1480
   go_wp2_with (first | (go_at_call 151; (with_reducible refine (slices_isNaN_int.calls (rd l0 x7_1) true _ A13.out).mono ?_); rintro e w' ⟨rfl, ⟨nd, rfl⟩⟩) | (go_at_call 151; (with_reducible refine (slices_isNaN_int.calls a1 t1482 _ A15.out).mono ?_); rintro e w' ⟨rfl, ⟨nd, rfl⟩⟩))
   go_ret2
   exact ⟨by first | rfl | (simp; done) | (simp [*]; done), by repeat (first | exact Drawn0.refl _ | apply Drawn0.step)⟩

-- NOT PRINTED: function 152 (slices_overlaps_int)

def ins_ren : Go.Shelf.Ren := ⟨fun | 21 => 138 | 27 => 152 | 28 => 153 | 35 => 169 | 39 => 176 | n => n, fun | 0 => 0 | 3 => 3 | 4 => 4 | 22 => 22 | n => n, fun n => n⟩
theorem ins_lays : Lays2.n21 Try.prog ins_ren := {
  mixed := by kernel_rfl
  f21 := Try.func138.trans (congrArg some (by kernel_rfl))
  f27 := Try.func152.trans (congrArg some (by kernel_rfl))
  f28 := Try.func153.trans (congrArg some (by kernel_rfl))
  f35 := Try.func169.trans (congrArg some (by kernel_rfl))
  f39 := Try.func176.trans (congrArg some (by kernel_rfl))
  t0 := Try.underlying0
  a0 := Try.isAgg0
  z0 := Try.sizeOf0
  v0 := Try.zeroValue0
  t3 := Try.underlying3
  a3 := Try.isAgg3
  z3 := Try.sizeOf3
  v3 := Try.zeroValue3
  t4 := Try.underlying4
  a4 := Try.isAgg4
  z4 := Try.sizeOf4
  v4 := Try.zeroValue4
  t22 := Try.underlying22
  a22 := Try.isAgg22
  z22 := Try.sizeOf22
  v22 := Try.zeroValue22
  i3 := by kernel_rfl }
theorem ins_ones (l : List Int) : ∀ v ∈ l.map (Value.int .i64), v.oneCell' = true := by
 intro v hv
 obtain ⟨x, _, rfl⟩ := List.mem_map.1 hv
 rfl
theorem ins_reps {w : World} {base : Nat} {ok : Nat → Prop} {xs : List Int} {inner : List Value} (h : Reps ((Kd.int .i64).M w base ok) 1 xs inner) : inner = xs.map (Value.int .i64) := by
 have hl : inner.length = xs.length := by have := h.1; omega
 apply List.ext_getElem (by simpa using hl)
 intro j h1 h2
 have hj : j < xs.length := by omega
 have h3 : (inner.drop (j * 1)).take 1 = [Value.int .i64 xs[j]] := h.2 j xs[j] (List.getElem?_eq_getElem hj)
 have h4 := congrArg (fun l => l[0]?) h3
 simp only [Nat.mul_one, List.getElem?_take, List.getElem?_drop, Nat.zero_lt_one, if_true, Nat.add_zero, List.getElem?_cons_zero] at h4
 rw [List.getElem?_eq_getElem h1] at h4
 simpa using h4
theorem ins_row {w' : World} {base g cap : Nat} {ok : Nat → Prop} {xs : List Int} {c' : Array Value} (hb : base ≤ g) (hok : ok g) (hg : w'.heap[g]? = some (.cells c' 3 (0, 0))) (hn : xs.length ≤ cap) (hm : cap ≤ maxLen) (hs : c'.size = cap) (ht : c'.toList.take xs.length = xs.map (Value.int .i64)) : Kd.R (Kd.int .i64) 3 w' base ok (.slice (some ⟨g, 0, none⟩) xs.length cap) xs := by
 refine ⟨fun k hk => ?_, xs.map (Value.int .i64), ⟨by rw [List.length_map]; exact (Nat.mul_one _).symm, .inr ⟨g, cap, c', rfl, hb, hg, hn, hm, by rw [hs]; exact (Nat.mul_one _).symm, by rw [show (Kd.int .i64).sz = 1 from rfl, Nat.mul_one]; exact ht⟩⟩, ⟨by rw [List.length_map]; exact (Nat.mul_one _).symm, fun j p hj => ?_⟩⟩
 · have : g = k := by simpa [Value.ownBlock] using hk
   exact this ▸ hok
 · show ((xs.map (Value.int .i64)).drop (j * 1)).take 1 = [Value.int .i64 p]
   have hj2 := (List.getElem?_eq_some_iff.1 hj)
   obtain ⟨hlt, rfl⟩ := hj2
   rw [Nat.mul_one, List.drop_eq_getElem_cons (by simpa using hlt)]
   simp
theorem ins_unfr {w : World} {base : Nat} {ok : Nat → Prop} {A : Option Addr} {n c : Nat} {xs : List Int} (h : Kd.R (Kd.int .i64) 3 w base ok (.slice A n c) xs) : ∀ a, A = some a → ∀ t, w.frozen? ⟨a.block, t, none⟩ = false := by
 intro a ha t
 subst ha
 obtain ⟨_, inner, ⟨_, hc⟩, _⟩ := h
 rcases hc with ⟨hv, _⟩ | ⟨g, cap, cur, hv, _, hg, _⟩
 · cases hv
 · injection hv with e1 _ _
   injection e1 with e1
   subst e1
   exact frozen_of_row w g t cur 3 hg
def slices_Insert_int_int.f (l0 : List Int) (a1 : Int) (l2 : List Int) : Option (List Int) := if 0 ≤ a1 then (if a1 ≤ (l0.length : Int) then (if (l2.length : Int) = 0 then (some l0) else ((some (l0.take (a1 : Int).toNat : List Int)).bind fun y1495 => ((some (([] : List Int) : List Int)).bind fun y1499 => (if y1499.length + y1495.length < 17592186044416 then ((some (y1499 ++ y1495 : List Int)).bind fun y1502 => (if y1502.length + l2.length < 17592186044416 then ((some (y1502 ++ l2 : List Int)).bind fun y1505 => ((some (l0.drop (a1 : Int).toNat : List Int)).bind fun y1508 => (if y1505.length + y1508.length < 17592186044416 then (some (y1505 ++ y1508)) else (none)))) else (none))) else (none))))) else (none)) else (none)
set_option maxHeartbeats 8000000 in
set_option maxRecDepth 100000 in
theorem slices_Insert_int_int.calls (P0_ : Nat → Prop) (u9000_ : Value) (l0 : List Int) (a1 : Int) (A2 : Option Addr) (c2 : Nat) (l2 : List Int) (r : List Int) (w0 w : World) (hB : Below w0.heap.size w0 w) (ho0 : Kd.R (Kd.int .i64) 3 w w0.heap.size P0_ u9000_ l0) (hr2 : ∀ W_, Kept w W_ (fun k_ => P0_ k_) → Kd.C (Kd.int .i64) W_ A2 l2.length l2) (hc2 : l2.length ≤ c2) (hz2 : ∀ a, A2 = some a → ∀ t, w.frozen? ⟨a.block, t, none⟩ = false) (h : slices_Insert_int_int.f l0 a1 l2 = some r) :
  Calls Try.prog 138 #[u9000_, .int .i64 a1, .slice A2 l2.length c2] w fun e w' => ∃ v0_ : Value, e = .returned (v0_) ∧ Kd.R (Kd.int .i64) 3 w' w0.heap.size (fun k_ => (P0_ k_ ∨ w.heap.size ≤ k_)) v0_ r ∧ Below w0.heap.size w0 w' ∧ Kept w w' (fun k_ => P0_ k_) := by
 have hf : 0 ≤ a1 ∧ a1 ≤ (l0.length : Int) ∧ r = l0.take a1.toNat ++ l2 ++ l0.drop a1.toNat ∧ (l2 ≠ [] → l0.length + l2.length < 17592186044416) := by
  unfold slices_Insert_int_int.f at h
  by_cases g1 : 0 ≤ a1
  · by_cases g2 : a1 ≤ (l0.length : Int)
    · rw [if_pos g1, if_pos g2] at h
      by_cases g3 : (l2.length : Int) = 0
      · rw [if_pos g3] at h
        have : l2 = [] := List.length_eq_zero_iff.1 (by omega)
        subst this
        exact ⟨g1, g2, by simpa using (Option.some.inj h).symm, fun hn => absurd rfl hn⟩
      · rw [if_neg g3] at h
        simp only [Option.bind_some, List.nil_append, List.length_nil, Nat.zero_add] at h
        split at h
        · split at h
          · split at h
            · rename_i e1 e2 e3
              refine ⟨g1, g2, (Option.some.inj h).symm, fun _ => ?_⟩
              simp only [List.length_append, List.length_take, List.length_drop] at e3
              omega
            · cases h
          · cases h
        · cases h
    · rw [if_pos g1, if_neg g2] at h; cases h
  · rw [if_neg g1] at h; cases h
 obtain ⟨f1, f2, rfl, f4⟩ := hf
 clear h
 obtain ⟨i, rfl⟩ : ∃ i : Nat, a1 = (i : Int) := ⟨a1.toNat, by omega⟩
 rw [Int.toNat_natCast]
 have hi : i ≤ l0.length := by omega
 clear f1 f2
 by_cases h2 : l2 = []
 · subst h2
   have hR := ho0
   obtain ⟨A, n, c, rfl, rfl, hnc⟩ : ∃ A n c, u9000_ = .slice A n c ∧ n = l0.length ∧ n ≤ c := by
    obtain ⟨A, c, e1, e2, _⟩ := Kd.R_reads ho0
    exact ⟨A, _, c, e1, rfl, e2⟩
   have h0 : Calls Try.prog 138 #[.slice A l0.length c, .int .i64 i, .slice A2 0 c2] w fun e w' => e = .returned (.slice A l0.length c) ∧ w' = w := by
    have hic : i ≤ c := by omega
    clear hR ho0 hr2 hz2 f4 hB hc2
    go_enter Try.func138, Try.ntmps138
    go_wp2
    all_goals (go_ret; exact ⟨rfl, rfl⟩)
   refine h0.mono ?_
   rintro e w' ⟨rfl, rfl⟩
   refine ⟨_, rfl, ?_, hB, Kept.refl _ _⟩
   have e0 : l0.take i ++ [] ++ l0.drop i = l0 := by simp
   rw [e0]
   exact Kd.R_mono hR (fun _ hk => Or.inl hk)
 · have hm : 0 < l2.length := List.length_pos_iff.2 h2
   have hbig := f4 h2
   clear f4
   obtain ⟨va, rfl, hvc⟩ := (hr2 w (Kept.refl _ _)).2.2 hm
   have hvs0 : ∀ j v, (l2.map (Value.int .i64))[j]? = some v → w.cell? (va.add j) = some v := by
    intro j v hj
    rw [List.getElem?_map] at hj
    obtain ⟨x, hx, rfl⟩ := Option.map_eq_some_iff.1 hj
    obtain ⟨c, hcl, hK, hcc⟩ := hvc j x hx
    have hK' : c = [Value.int .i64 x] := hK
    subst hK'
    have := hcc 0 _ rfl
    rwa [show (j * (Kd.int .i64).sz + 0) = j from by show j * 1 + 0 = j; omega] at this
   obtain ⟨vb, voff, vsp⟩ := va
   have h00 := hvs0 0 (.int .i64 l2[0]) (by rw [List.getElem?_map, List.getElem?_eq_getElem hm]; rfl)
   have hsp : vsp = none := by
    cases vsp with
    | none => rfl
    | some s =>
      simp only [Addr.add, if_true, World.cell?] at h00
      split at h00 <;> simp at h00
   subst hsp
   have hvs : ∀ j v, (l2.map (Value.int .i64))[j]? = some v → w.cell? ⟨vb, voff + j, none⟩ = some v := by
    intro j v hj
    have := hvs0 j v hj
    rwa [Addr.add_lit] at this
   have h01 : w.cell? ⟨vb, voff, none⟩ = some (.int .i64 l2[0]) := by simpa [Addr.add] using h00
   obtain ⟨tA, kA, hsa⟩ : ∃ tA kA, w.shape? vb = some (tA, kA) := by
    unfold World.cell? at h01
    unfold World.shape?
    split at h01
    · rename_i c e fz hh
      have hh' : w.heap[vb]? = some (.cells c e fz) := hh
      rw [hh']; exact ⟨_, _, rfl⟩
    · cases h01
   have hfa : w.frozen? ⟨vb, voff, none⟩ = false := hz2 _ rfl voff
   have hfe : w.frozen? ⟨vb, kA, none⟩ = false := hz2 _ rfl kA
   have hvl : (l2.map (Value.int .i64)).length = l2.length := List.length_map _
   have hcl : (l0.map (Value.int .i64)).length = l0.length := List.length_map _
   have hxl : (l0.take i ++ l2 ++ l0.drop i).length = l0.length + l2.length := by simp only [List.length_append, List.length_take, List.length_drop]; omega
   have hxm : (l0.take i ++ l2 ++ l0.drop i).map (Value.int .i64) = (l0.map (Value.int .i64)).take i ++ l2.map (Value.int .i64) ++ (l0.map (Value.int .i64)).drop i := by simp only [List.map_append, List.map_take, List.map_drop]
   have h1c := ins_ones l0
   have h1v := ins_ones l2
   obtain ⟨hok, inner, ⟨hil, hcase⟩, hr⟩ := ho0
   have hin := ins_reps hr
   subst hin
   have hlen63 : l0.length + l2.length ≤ maxLen := by unfold maxLen; omega
   have fin : ∀ (w' : World) (g cap : Nat) (c' : Array Value), w0.heap.size ≤ g → (P0_ g ∨ w.heap.size ≤ g) → w'.heap[g]? = some (.cells c' 3 (0, 0)) → l0.length + l2.length ≤ cap → cap ≤ maxLen → c'.size = cap → c'.toList.take (l0.length + l2.length) = (l0.map (Value.int .i64)).take i ++ l2.map (Value.int .i64) ++ (l0.map (Value.int .i64)).drop i → Kd.R (Kd.int .i64) 3 w' w0.heap.size (fun k_ => (P0_ k_ ∨ w.heap.size ≤ k_)) (.slice (some ⟨g, 0, none⟩) (l0.length + l2.length) cap) (l0.take i ++ l2 ++ l0.drop i) := by
    intro w' g cap c' a1 a2 a3 a4 a5 a6 a7
    have := ins_row (xs := l0.take i ++ l2 ++ l0.drop i) (ok := fun k_ => (P0_ k_ ∨ w.heap.size ≤ k_)) a1 a2 a3 (by rw [hxl]; exact a4) a5 a6 (by rw [hxl, hxm]; exact a7)
    rwa [hxl] at this
   have endgrow : ∀ (base : Option Addr) (c : Nat), l0.length ≤ c → c < l0.length + l2.length → (base = none → l0.length = 0) → (∀ a, base = some a → ∀ j v, (l0.map (Value.int .i64))[j]? = some v → w.cell? (a.add j) = some v) → i = l0.length →
      Calls Try.prog 138 #[.slice base l0.length c, .int .i64 i, .slice (some ⟨vb, voff, none⟩) l2.length c2] w fun e w' => ∃ v0_ : Value, e = .returned (v0_) ∧ Kd.R (Kd.int .i64) 3 w' w0.heap.size (fun k_ => (P0_ k_ ∨ w.heap.size ≤ k_)) v0_ (l0.take i ++ l2 ++ l0.drop i) ∧ Below w0.heap.size w0 w' ∧ Kept w w' (fun k_ => P0_ k_) := by
    intro base c b1 b2 b3 b4 b5
    subst b5
    refine (Any2.slices_Insert_int_end_grow ins_lays base l0.length c vb voff l2.length c2 (l0.map (Value.int .i64)) (l2.map (Value.int .i64)) w hm b1 b2 (by omega) hcl hvl b3 b4 hvs h1v).mono ?_
    rintro e w' ⟨rfl, rfl⟩
    refine ⟨_, rfl, ?_, ?_, ?_⟩
    · refine fin _ w.heap.size _ _ hB.size (.inr (Nat.le_refl _)) (heap_alloc_new _ _) (grownCap_ge _ _ _ _) (grownCap_le_maxLen _ _ _ _ hlen63) ?_ ?_
      · have := grownCap_ge w (l0.length + l2.length) c (ins_ren.t 3)
        simp [Builtin.zeroCells, Value.cells]
        omega
      · rw [List.take_of_length_le (l := l0.map _) (by simp), List.drop_of_length_le (l := l0.map _) (by simp), List.append_nil]
        simp only [Array.toList_append, List.toList_toArray]
        exact List.take_left' (by simp)
    · exact (below_drew1 hB).alloc (by exact hB.size) _
    · exact Kept.alloc (Kept.drew (Kept.refl _ _)) _
   rcases hcase with ⟨rfl, hn⟩ | ⟨g, cap, cur, rfl, hbg, hg, hnc, hcm, hcs, htk⟩
   · rw [hn] at hi
     have := endgrow none 0 (by omega) (by omega) (fun _ => hn) (fun _ he => by cases he) (by omega)
     rwa [hn] at this
   · have hP : P0_ g := hok g rfl
     have hne : vb ≠ g := by
      intro he
      subst he
      have hk : Kept w (w.setCell ⟨vb, voff, none⟩ (.bool true)) (fun k_ => P0_ k_) := ⟨by simp [World.setCell], fun k _ hn => Below.heap_setCell w ⟨vb, voff, none⟩ _ k (fun e => hn (e ▸ hP))⟩
      obtain ⟨a', ha', hc'⟩ := (hr2 _ hk).2.2 hm
      injection ha' with ha'
      subst ha'
      obtain ⟨c, _, hK, hcc⟩ := hc' 0 _ (List.getElem?_eq_getElem hm)
      have hK' : c = [Value.int .i64 l2[0]] := hK
      subst hK'
      have k1 := hcc 0 _ rfl
      rw [show (0 * (Kd.int .i64).sz + 0) = 0 from rfl, show (⟨vb, voff, none⟩ : Addr).add 0 = ⟨vb, voff, none⟩ from rfl, World.cell?_setCell_same w ⟨vb, voff, none⟩ (.bool true) h01] at k1
      cases k1
     have hcs1 : cur.size = cap := hcs.trans (Nat.mul_one _)
     have htk1 : cur.toList.take l0.length = l0.map (Value.int .i64) := by rw [← htk, show (Kd.int .i64).sz = 1 from rfl, Nat.mul_one]
     have hcell : ∀ t, t < cap → (w.cell? ⟨g, t, none⟩).isSome = true ∧ w.frozen? ⟨g, t, none⟩ = false := by
      intro t ht
      refine ⟨?_, frozen_of_row w g t cur 3 hg⟩
      rw [cell_of_row w g t cur 3 (0, 0) hg, Array.getElem?_eq_getElem (by omega)]
      rfl
     have hcs0 : ∀ j v, (l0.map (Value.int .i64))[j]? = some v → w.cell? ⟨g, 0 + j, none⟩ = some v := by
      intro j v hj
      rw [Nat.zero_add, cell_of_row w g j cur 3 (0, 0) hg, ← Array.getElem?_toList]
      rw [← htk1, List.getElem?_take] at hj
      split at hj
      · exact hj
      · cases hj
     have hcurl : cur.toList.length = cap := by rw [Array.length_toList]; exact hcs1
     by_cases hroom : l0.length + l2.length ≤ cap
     · by_cases hlt : i < l0.length
       · refine (Any2.slices_Insert_int_shift ins_lays g 0 l0.length cap i vb voff l2.length c2 (l0.map (Value.int .i64)) (l2.map (Value.int .i64)) w hlt hm hroom (by unfold maxLen at hcm; omega) hne hcl hvl hcs0 (fun j hj => by rw [Nat.zero_add]; exact (hcell j (by omega)).1) (fun j hj => by rw [Nat.zero_add]; exact (hcell j (by omega)).2) hvs h1c h1v tA 3 kA cap hsa (by unfold World.shape?; rw [hg]; exact congrArg (fun n => some (3, n)) hcs1) (by omega) hfa hfe).mono ?_
         rintro e w' ⟨rfl, rfl⟩
         simp only [Nat.zero_add]
         have hdl : ((l0.map (Value.int .i64)).drop i).length = l0.length - i := by rw [List.length_drop, hcl]
         obtain ⟨c1, q1, s1, l1⟩ := setCells_row (e := 3) ((l0.map (Value.int .i64)).drop i) (i + l2.length) w.drew cur hg (by rw [hdl]; omega)
         obtain ⟨c3, q3, s3, l3⟩ := setCells_row (e := 3) (l2.map (Value.int .i64)) i _ c1 q1 (by rw [hvl, s1]; omega)
         obtain ⟨a1, a2, a3, a4⟩ := setCells_same g ((l0.map (Value.int .i64)).drop i) (i + l2.length) w.drew
         obtain ⟨b1, b2, b3, b4⟩ := setCells_same g (l2.map (Value.int .i64)) i (w.drew.setCells g (i + l2.length) ((l0.map (Value.int .i64)).drop i))
         have far : ∀ k, k ≠ g → ((w.drew.setCells g (i + l2.length) ((l0.map (Value.int .i64)).drop i)).setCells g i (l2.map (Value.int .i64))).heap[k]? = w.heap[k]? := fun k hk => by rw [setCells_far _ _ k hk, setCells_far _ _ k hk]; rfl
         refine ⟨_, rfl, fin _ g cap c3 hbg (.inl hP) q3 hroom hcm (by rw [s3, s1]; exact hcs1) ?_, ⟨b1.trans (a1.trans hB.os), b2.trans (a2.trans hB.tape), b3.trans (a3.trans hB.output), by rw [b4, a4]; exact hB.size, fun k hk => (far k (by omega)).trans (hB.block k hk)⟩, ⟨by rw [b4, a4]; exact Nat.le_refl _, fun k _ hn => far k (fun he => hn (he ▸ hP))⟩⟩
         have hc1l : c1.toList.length = cap := by rw [Array.length_toList, s1]; exact hcs1
         rw [l3, hvl, l1, hdl]
         have e1 : (cur.toList.take (i + l2.length) ++ (l0.map (Value.int .i64)).drop i ++ cur.toList.drop (i + l2.length + (l0.length - i))).take i = (l0.map (Value.int .i64)).take i := by
          rw [List.append_assoc, List.take_append_of_le_length (by rw [List.length_take, hcurl]; omega), List.take_take, Nat.min_eq_left (by omega), ← htk1, List.take_take, Nat.min_eq_left hi]
         have e2 : (cur.toList.take (i + l2.length) ++ (l0.map (Value.int .i64)).drop i ++ cur.toList.drop (i + l2.length + (l0.length - i))).drop (i + l2.length) = (l0.map (Value.int .i64)).drop i ++ cur.toList.drop (i + l2.length + (l0.length - i)) := by
          rw [List.append_assoc, List.drop_left' (by rw [List.length_take, hcurl]; omega)]
         rw [e1, e2]
         simp only [← List.append_assoc]
         exact List.take_left' (by simp only [List.length_append, List.length_take, List.length_drop, List.length_map]; omega)
       · have hie : i = l0.length := by omega
         subst hie
         refine (Any2.slices_Insert_int_end_room ins_lays g 0 l0.length cap vb voff l2.length c2 (l2.map (Value.int .i64)) w hm hroom (by unfold maxLen at hcm; omega) hvl (fun j hj => by rw [Nat.zero_add]; exact (hcell _ (by omega)).1) (fun j hj => by rw [Nat.zero_add]; exact (hcell _ (by omega)).2) hvs h1v).mono ?_
         rintro e w' ⟨rfl, rfl⟩
         simp only [Nat.zero_add]
         obtain ⟨c1, q1, s1, l1⟩ := setCells_row (e := 3) (l2.map (Value.int .i64)) l0.length w cur hg (by rw [hvl]; omega)
         obtain ⟨a1, a2, a3, a4⟩ := setCells_same g (l2.map (Value.int .i64)) l0.length w
         have far : ∀ k, k ≠ g → (w.setCells g l0.length (l2.map (Value.int .i64))).heap[k]? = w.heap[k]? := fun k hk => setCells_far _ _ k hk
         refine ⟨_, rfl, fin _ g cap c1 hbg (.inl hP) q1 hroom hcm (by rw [s1]; exact hcs1) ?_, ⟨a1.trans hB.os, a2.trans hB.tape, a3.trans hB.output, by rw [a4]; exact hB.size, fun k hk => (far k (by omega)).trans (hB.block k hk)⟩, ⟨by rw [a4]; exact Nat.le_refl _, fun k _ hn => far k (fun he => hn (he ▸ hP))⟩⟩
         rw [l1, hvl, List.take_of_length_le (l := l0.map _) (by simp), List.drop_of_length_le (l := l0.map _) (by simp), List.append_nil, htk1]
         exact List.take_left' (by simp)
     · by_cases hlt : i < l0.length
       · have hgl : g < w.heap.size := block_lt_of_cell (a := ⟨g, 0 + 0, none⟩) (hcs0 0 (.int .i64 l0[0]) (by rw [List.getElem?_map, List.getElem?_eq_getElem (by omega)]; rfl))
         refine (Any2.slices_Insert_int_grow ins_lays g 0 l0.length cap i vb voff l2.length c2 (l0.map (Value.int .i64)) (l2.map (Value.int .i64)) w hlt hm hnc (by omega) (by omega) hcl hvl hcs0 hvs h1c h1v).mono ?_
         rintro e w' ⟨rfl, rfl⟩
         have hge := grownCap_ge w (l0.length + l2.length) cap (ins_ren.t 3)
         have hle := grownCap_le_maxLen w (l0.length + l2.length) cap (ins_ren.t 3) hlen63
         generalize grownCap w (l0.length + l2.length) cap (ins_ren.t 3) = gc at hge hle ⊢
         obtain ⟨C0, hC0⟩ : ∃ C0, C0 = ((l0.map (Value.int .i64)).take i).toArray ++ Builtin.zeroCells (Value.int .i64 0).cells (l0.length + l2.length - i) ++ Builtin.zeroCells (Value.int .i64 0).cells (gc - (l0.length + l2.length)) := ⟨_, rfl⟩
         rw [← hC0]
         have hC0s : C0.size = gc := by
          rw [hC0]
          simp [Builtin.zeroCells, Value.cells]
          omega
         have hC0t : C0.toList.take i = (l0.map (Value.int .i64)).take i := by
          rw [hC0]
          simp only [Array.toList_append, List.toList_toArray, List.append_assoc]
          exact List.take_left' (by rw [List.length_take, hcl]; omega)
         have hdl : ((l0.map (Value.int .i64)).drop i).length = l0.length - i := by rw [List.length_drop, hcl]
         obtain ⟨c1, q1, s1, l1⟩ := setCells_row (e := 3) (l2.map (Value.int .i64)) i (w.alloc (.cells C0 3)).drew C0 (heap_alloc_new _ _) (by rw [hvl, hC0s]; omega)
         obtain ⟨c3, q3, s3, l3⟩ := setCells_row (e := 3) ((l0.map (Value.int .i64)).drop i) (i + l2.length) ((w.alloc (.cells C0 3)).drew.setCells w.heap.size i (l2.map (Value.int .i64))).drew c1 q1 (by rw [hdl, s1, hC0s]; omega)
         obtain ⟨a1, a2, a3, a4⟩ := setCells_same w.heap.size (l2.map (Value.int .i64)) i (w.alloc (.cells C0 3)).drew
         obtain ⟨b1, b2, b3, b4⟩ := setCells_same w.heap.size ((l0.map (Value.int .i64)).drop i) (i + l2.length) ((w.alloc (.cells C0 3)).drew.setCells w.heap.size i (l2.map (Value.int .i64))).drew
         have far : ∀ k, k < w.heap.size → (((w.alloc (.cells C0 3)).drew.setCells w.heap.size i (l2.map (Value.int .i64))).drew.setCells w.heap.size (i + l2.length) ((l0.map (Value.int .i64)).drop i)).heap[k]? = w.heap[k]? := fun k hk => by
          rw [setCells_far _ _ k (by omega)]
          show ((w.alloc (.cells C0 3)).drew.setCells w.heap.size i (l2.map (Value.int .i64))).heap[k]? = _
          rw [setCells_far _ _ k (by omega)]
          exact Below.heap_alloc _ _ _ hk
         have hsz : (((w.alloc (.cells C0 3)).drew.setCells w.heap.size i (l2.map (Value.int .i64))).drew.setCells w.heap.size (i + l2.length) ((l0.map (Value.int .i64)).drop i)).heap.size = w.heap.size + 1 := by
          rw [b4]
          show ((w.alloc (.cells C0 3)).drew.setCells w.heap.size i (l2.map (Value.int .i64))).heap.size = _
          rw [a4]
          exact Array.size_push _
         refine ⟨_, rfl, fin _ w.heap.size gc c3 hB.size (.inr (Nat.le_refl _)) q3 hge hle (by rw [s3, s1]; exact hC0s) ?_, ⟨b1.trans (a1.trans hB.os), b2.trans (a2.trans hB.tape), b3.trans (a3.trans hB.output), ?_, fun k hk => (far k (Nat.lt_of_lt_of_le hk hB.size)).trans (hB.block k hk)⟩, ⟨?_, fun k hk _ => far k hk⟩⟩
         · rw [l3, hdl, l1, hvl]
           have e1 : (C0.toList.take i ++ l2.map (Value.int .i64) ++ C0.toList.drop (i + l2.length)).take (i + l2.length) = (l0.map (Value.int .i64)).take i ++ l2.map (Value.int .i64) := by
            rw [hC0t]
            exact List.take_left' (by simp only [List.length_append, List.length_take, List.length_map]; omega)
           rw [e1]
           exact List.take_left' (by simp only [List.length_append, List.length_take, List.length_drop, List.length_map]; omega)
         · exact Nat.le_trans hB.size (Nat.le_trans (Nat.le_succ _) (Nat.le_of_eq hsz.symm))
         · exact Nat.le_trans (Nat.le_succ _) (Nat.le_of_eq hsz.symm)
       · refine endgrow (some ⟨g, 0, none⟩) cap hnc (by omega) (fun he => by cases he) (fun a ha j v hj => ?_) (by omega)
         injection ha with ha
         subst ha
         rw [Addr.add_lit]
         exact hcs0 j v hj

def impl_joined.f (k : Nat) (l0 : List Int) (a1 : Int) : Option (List Int) := (slices_Clone_int_int.f l0).bind fun t1515 => ((slices_BinarySearch_int_int.f k t1515 a1).bind fun bt1518 => (if bt1518.2 = true then (some t1515) else ((slices_Insert_int_int.f t1515 bt1518.1 (([a1] : List Int))).bind fun t1523 => (some t1523))))
theorem impl_joined.mono : ∀ a0 a1 k, LeO (impl_joined.f k a0 a1) (impl_joined.f (k + 1) a0 a1) := by
 intro a0 a1 k
 unfold impl_joined.f
 repeat' first
   | (with_reducible exact slices_BinarySearch_int_int.mono _ _ _)
   | (with_reducible exact LeO.refl _)
   | (with_reducible exact LeO.none _)
   | (with_reducible refine LeO.ite ?_ ?_)
   | (with_reducible refine LeO.bind ?_ (fun _ => ?_))
set_option maxHeartbeats 8000000 in
set_option maxRecDepth 100000 in
theorem impl_joined.calls (k : Nat) (A0 : Option Addr) (c0 : Nat) (l0 : List Int) (a1 : Int) (r : List Int) (w : World) (hr0 : Kd.C (Kd.int .i64) w A0 l0.length l0) (hc0 : l0.length ≤ c0) (h : impl_joined.f k l0 a1 = some r) :
  Calls Try.prog 107 #[.slice A0 l0.length c0, .int .i64 a1] w fun e w' => ∃ v0_ : Value, e = .returned (v0_) ∧ Kd.R (Kd.int .i64) 3 w' w.heap.size (fun _ => True) v0_ r ∧ Below w.heap.size w w' := by
 have HR0 := Aside0.mk hr0
 have HC0 := Aside0.mk hc0
 clear hr0 hc0
 have HB := Aside0.mk (Below.refl w.heap.size w)
 have H : ((slices_Clone_int_int.f l0).bind fun t1515 => ((slices_BinarySearch_int_int.f k t1515 a1).bind fun bt1518 => (if bt1518.2 = true then (some t1515) else ((slices_Insert_int_int.f t1515 bt1518.1 (([a1] : List Int))).bind fun t1523 => (some t1523))))) = some r := h
 clear h
 replace H := Option.bind_eq_some_iff.mp H
 obtain ⟨t1515, A30, H⟩ := H
 replace H : ((slices_BinarySearch_int_int.f k t1515 a1).bind fun bt1518 => (if bt1518.2 = true then (some t1515) else ((slices_Insert_int_int.f t1515 bt1518.1 (([a1] : List Int))).bind fun t1523 => (some t1523)))) = some r := H
 have A3 := Aside0.mk A30
 clear A30
 replace H := Option.bind_eq_some_iff.mp H
 obtain ⟨⟨t1518, t1519⟩, A40, H⟩ := H
 replace H : (if t1519 = true then (some t1515) else ((slices_Insert_int_int.f t1515 t1518 (([a1] : List Int))).bind fun t1523 => (some t1523))) = some r := H
 have A4 := Aside0.mk A40
 clear A40
 by_cases c5 : t1519 = true
 ·subst c5
  rw [if_pos rfl] at H
  obtain rfl := Option.some.inj H
  go_enter Try.func107, Try.ntmps107
  go_wp2_with (first | ((with_reducible refine gate_callee (f := 129) rfl ?_); refine goesL_ (some 9) rfl rfl Try.func129 (by kernel_rfl) rfl #[.slice A0 l0.length c0] rfl tm_ ?_; (with_reducible refine (slices_Clone_int_int.calls _ _ l0 t1515 _ ?side1 ?side2 A3.out).mono ?_); (case side1 => exact ca HR0.out); (case side2 => exact HC0.out); rintro e w6 ⟨v1516, rfl, ho0, hb⟩; refine ⟨_, rfl, ?_⟩; have HO1517 := Aside0.mk (Kd.R_lower ho0 (below_size (hB HB))); replace HB := bst_ HB hb; clear hb ho0; obtain ⟨Ao7, co7, eo7⟩ := Kd.R_slice HO1517.out; subst eo7) | ((with_reducible refine gate_callee (f := 137) rfl ?_); refine goesL_ (some 13) rfl rfl Try.func137 (by kernel_rfl) rfl #[.slice Ao7 t1515.length co7, .int .i64 a1] rfl tm_ ?_; (with_reducible refine (slices_BinarySearch_int_int.calls k _ _ t1515 a1 t1518 true _ ?side1 ?side2 A4.out).mono ?_); (case side1 => exact ca (Kd.R_reads' HO1517.out).2.2); (case side2 => exact (Kd.R_reads' HO1517.out).2.1); rintro e w' ⟨rfl, ⟨nd, rfl⟩⟩; refine ⟨_, rfl, ?_⟩))
  go_ret
  exact ⟨_, by first | rfl | (simp [errW_none, errW_some] <;> rfl) | (simp [*, errW_none, errW_some] <;> rfl), by (with_reducible repeat (first | apply Kd.R_alloc | apply Kd.R_drewN | apply Kd.R_drew)); exact HO1517.out, by repeat (first | (with_reducible first | exact HB.out | apply below_alloc | apply pw_below_drewN | apply below_drew1) | exact HB.out)⟩
 replace c5 := Bool.eq_false_iff.mpr c5
 subst c5
 rw [if_neg (show ¬ (false = true) by decide)] at H
 obtain ⟨y1520, hy1520⟩ : ∃ y_ : List Int, y_ = (([a1] : List Int)) := ⟨_, rfl⟩
 replace H : ((slices_Insert_int_int.f t1515 t1518 y1520).bind fun t1523 => (some t1523)) = some r := by first | (rw [hy1520]; with_reducible exact H) | (have H2_ := (Option.bind_some _ _).symm.trans H; rw [hy1520]; with_reducible exact H2_) | (have H2_ := (Option.bind_some _ _).symm.trans H; with_reducible exact H2_) | with_reducible exact H | (rw [hy1520]; exact H) | exact H
 have Ny1520 := Aside0.mk hy1520
 clear hy1520
 replace H := Option.bind_eq_some_iff.mp H
 obtain ⟨t1523, A80, H⟩ := H
 replace H : (some t1523) = some r := H
 have A8 := Aside0.mk A80
 clear A80
 obtain rfl := Option.some.inj H
 go_enter Try.func107, Try.ntmps107
 go_wp2_with (first | ((with_reducible refine gate_callee (f := 129) rfl ?_); refine goesL_ (some 9) rfl rfl Try.func129 (by kernel_rfl) rfl #[.slice A0 l0.length c0] rfl tm_ ?_; (with_reducible refine (slices_Clone_int_int.calls _ _ l0 t1515 _ ?side1 ?side2 A3.out).mono ?_); (case side1 => exact ca HR0.out); (case side2 => exact HC0.out); rintro e w9 ⟨v1516, rfl, ho0, hb⟩; refine ⟨_, rfl, ?_⟩; have HO1517 := Aside0.mk (Kd.R_lower ho0 (below_size (hB HB))); replace HB := bst_ HB hb; clear hb ho0; obtain ⟨Ao10, co10, eo10⟩ := Kd.R_slice HO1517.out; subst eo10) | ((with_reducible refine gate_callee (f := 137) rfl ?_); refine goesL_ (some 13) rfl rfl Try.func137 (by kernel_rfl) rfl #[.slice Ao10 t1515.length co10, .int .i64 a1] rfl tm_ ?_; (with_reducible refine (slices_BinarySearch_int_int.calls k _ _ t1515 a1 t1518 false _ ?side1 ?side2 A4.out).mono ?_); (case side1 => exact ca (Kd.R_reads' HO1517.out).2.2); (case side2 => exact (Kd.R_reads' HO1517.out).2.1); rintro e w' ⟨rfl, ⟨nd, rfl⟩⟩; refine ⟨_, rfl, ?_⟩) | ((with_reducible refine gate_dst (N := 21) rfl ?_); refine Kd.R_lit (Kd.int .i64) _ 3 ?hg (N := 21) ?hd (xs := ([a1] : List Int)) (inner := [.int .i64 a1]) (ok := fun _ => True) (okp := fun _ => True) ?hr ?hp (fun _ hk => hk) trivial (Below.refl _ _) (Nat.le_refl _) (by simp) ?_; (case hd => rfl); (case hg => rfl); (case hr => first | (go_simp; done) | (go_simp; rfl)); (case hp => exact (Reps.one (show Kd.M (Kd.int .i64) _ _ _ a1 [.int .i64 a1] from rfl) (Reps.none _ _))); intro v1521 w11 ho12 hb hg_ hnew_; clear hg_ hnew_; (first | rw [← Ny1520.out] at ho12 | (simp only [Int.reduceToNat] at ho12; rw [← Ny1520.out] at ho12)); have HO1522 := Aside0.mk (Kd.R_lower (Kd.R_new' ho12 (rl_ HO1517)) (below_size (hB HB))); replace HO1517 := re_ HO1517 ho12 hb; replace HB := bst_ HB hb; clear hb ho12; obtain ⟨Ao13, co13, eo13⟩ := Kd.R_slice HO1522.out; subst eo13) | ((with_reducible refine gate_callee (f := 138) rfl ?_); refine goesL_ (some 22) rfl rfl Try.func138 (by kernel_rfl) rfl #[.slice Ao10 t1515.length co10, .int .i64 t1518, .slice Ao13 y1520.length co13] rfl tm_ ?_; (with_reducible refine (slices_Insert_int_int.calls (fun k_ => some k_ = (.slice Ao10 t1515.length co10 : Value).ownBlock) (.slice Ao10 t1515.length co10) t1515 t1518 _ _ y1520 t1523 w _ ?side1 ?side2 ?side3 ?side4 (ins_unfr HO1522.out) A8.out).mono ?_); (case side1 => repeat (first | (with_reducible first | exact HB.out | apply below_alloc | apply pw_below_drewN | apply below_drew1) | exact HB.out)); (case side2 => exact Kd.R_tight rfl HO1517.out); (case side3 => exact Kd.C_kept_own (HO1522.out) (fun k_ hk_ hs_ => (hk_.2) hs_)); (case side4 => exact (Kd.R_reads' HO1522.out).2.1); rintro e w14 ⟨v1524, rfl, ho0, hb, hkp⟩; refine ⟨_, rfl, ?_⟩; have HO1525 := Aside0.mk (Kd.R_mono (ok' := fun k_ => no_ (.slice Ao13 y1520.length co13) k_) ho0 (fun k_ hk_ => Or.elim hk_ (fun hs_ => fun e_ => (((HO1522.out).1 k_ e_.symm).2) hs_) (fun hn_ => (Kd.fresh' (rl_ HO1522) k_ hn_)))); replace HO1522 := Aside0.mk (Kd.R_mono (ok' := fun k_ => no_ v1524 k_) (Kd.R_keptB (HO1522.out) hkp (fun k_ hk_ hs_ => (hk_.2) hs_)) (fun k_ hk_ => fun e_ => Or.elim (ho0.1 k_ e_.symm) (fun hs_ => hk_.2.1 hs_) (fun hn_ => Nat.not_le.2 hk_.2.2 hn_))); replace HB := Aside0.mk (hb); clear HO1517; clear hb ho0))
 go_ret
 exact ⟨_, by first | rfl | (simp [errW_none, errW_some] <;> rfl) | (simp [*, errW_none, errW_some] <;> rfl), by (with_reducible repeat (first | apply Kd.R_alloc | apply Kd.R_drewN | apply Kd.R_drew)); exact Kd.R_mono HO1525.out (fun _ hk => trivial), by repeat (first | (with_reducible first | exact HB.out | apply below_alloc | apply pw_below_drewN | apply below_drew1) | exact HB.out)⟩

def impl_JoinSpot.f (k : Nat) (l0 : List Int) (a1 : Int) : Option (List Int × Bool) := (impl_goodWants.f k l0).bind fun t1526 => (if t1526 = true then ((impl_isSpot.f a1).bind fun t1527 => (if t1527 = true then ((impl_joined.f k l0 a1).bind fun t1528 => (some (t1528, true))) else (some (([] : List Int), false)))) else (some (([] : List Int), false)))
theorem impl_JoinSpot.mono : ∀ a0 a1 k, LeO (impl_JoinSpot.f k a0 a1) (impl_JoinSpot.f (k + 1) a0 a1) := by
 intro a0 a1 k
 unfold impl_JoinSpot.f
 repeat' first
   | (with_reducible exact impl_goodWants.mono _ _)
   | (with_reducible exact impl_joined.mono _ _ _)
   | (with_reducible exact LeO.refl _)
   | (with_reducible exact LeO.none _)
   | (with_reducible refine LeO.ite ?_ ?_)
   | (with_reducible refine LeO.bind ?_ (fun _ => ?_))
set_option maxHeartbeats 8000000 in
set_option maxRecDepth 100000 in
theorem impl_JoinSpot.calls (k : Nat) (A0 : Option Addr) (c0 : Nat) (l0 : List Int) (a1 : Int) (r1 : List Int) (r2 : Bool) (w : World) (hr0 : Kd.C (Kd.int .i64) w A0 l0.length l0) (hc0 : l0.length ≤ c0) (h : impl_JoinSpot.f k l0 a1 = some (r1, r2)) :
  Calls Try.prog 48 #[.slice A0 l0.length c0, .int .i64 a1] w fun e w' => ∃ v0_ : Value, e = .returned (.tuple #[v0_, .bool r2]) ∧ Kd.R (Kd.int .i64) 3 w' w.heap.size (fun _ => True) v0_ r1 ∧ Below w.heap.size w w' := by
 have HR0 := Aside0.mk hr0
 have HC0 := Aside0.mk hc0
 clear hr0 hc0
 have HB := Aside0.mk (Below.refl w.heap.size w)
 have H : ((impl_goodWants.f k l0).bind fun t1526 => (if t1526 = true then ((impl_isSpot.f a1).bind fun t1527 => (if t1527 = true then ((impl_joined.f k l0 a1).bind fun t1528 => (some (t1528, true))) else (some (([] : List Int), false)))) else (some (([] : List Int), false)))) = some (r1, r2) := h
 clear h
 replace H := Option.bind_eq_some_iff.mp H
 obtain ⟨t1526, A30, H⟩ := H
 replace H : (if t1526 = true then ((impl_isSpot.f a1).bind fun t1527 => (if t1527 = true then ((impl_joined.f k l0 a1).bind fun t1528 => (some (t1528, true))) else (some (([] : List Int), false)))) else (some (([] : List Int), false))) = some (r1, r2) := H
 have A3 := Aside0.mk A30
 clear A30
 by_cases c4 : t1526 = true
 rotate_left
 ·replace c4 := Bool.eq_false_iff.mpr c4
  subst c4
  rw [if_neg (show ¬ (false = true) by decide)] at H
  simp only [Option.some.injEq, Prod.mk.injEq] at H
  obtain ⟨rfl, rfl⟩ := H
  go_enter Try.func48, Try.ntmps48
  go_wp2_with (first | ((with_reducible refine gate_callee (f := 78) rfl ?_); refine goesL_ (some 7) rfl rfl Try.func78 (by kernel_rfl) rfl #[.slice A0 l0.length c0] rfl tm_ ?_; (with_reducible refine (impl_goodWants.calls k _ _ l0 false _ ?side1 ?side2 A3.out).mono ?_); (case side1 => exact ca HR0.out); (case side2 => exact HC0.out); rintro e w' ⟨rfl, ⟨nd, rfl⟩⟩; refine ⟨_, rfl, ?_⟩))
  go_ret2
  exact ⟨_, by first | rfl | (simp [errW_none, errW_some] <;> rfl) | (simp [*, errW_none, errW_some] <;> rfl), by first | exact Kd.R_nil _ _ _ _ _ | exact Kd.N_nil _ _ _ _ _ | exact Kd.V_nil _ _ _ _ _ | exact Kd.Q_nil _ _ _ _ _ | exact Kd.S_nil _ _ _ _ _, by repeat (first | (with_reducible first | exact HB.out | apply below_alloc | apply pw_below_drewN | apply below_drew1) | exact HB.out)⟩
 subst c4
 rw [if_pos rfl] at H
 replace H := Option.bind_eq_some_iff.mp H
 obtain ⟨t1527, A50, H⟩ := H
 replace H : (if t1527 = true then ((impl_joined.f k l0 a1).bind fun t1528 => (some (t1528, true))) else (some (([] : List Int), false))) = some (r1, r2) := H
 have A5 := Aside0.mk A50
 clear A50
 by_cases c6 : t1527 = true
 rotate_left
 ·replace c6 := Bool.eq_false_iff.mpr c6
  subst c6
  rw [if_neg (show ¬ (false = true) by decide)] at H
  simp only [Option.some.injEq, Prod.mk.injEq] at H
  obtain ⟨rfl, rfl⟩ := H
  go_enter Try.func48, Try.ntmps48
  go_wp2_with (first | ((with_reducible refine gate_callee (f := 78) rfl ?_); refine goesL_ (some 7) rfl rfl Try.func78 (by kernel_rfl) rfl #[.slice A0 l0.length c0] rfl tm_ ?_; (with_reducible refine (impl_goodWants.calls k _ _ l0 true _ ?side1 ?side2 A3.out).mono ?_); (case side1 => exact ca HR0.out); (case side2 => exact HC0.out); rintro e w' ⟨rfl, ⟨nd, rfl⟩⟩; refine ⟨_, rfl, ?_⟩) | (go_at_call 106; (with_reducible refine (impl_isSpot.calls a1 false _ A5.out).mono ?_); rintro e w' ⟨rfl, ⟨nd, rfl⟩⟩))
  go_ret2
  exact ⟨_, by first | rfl | (simp [errW_none, errW_some] <;> rfl) | (simp [*, errW_none, errW_some] <;> rfl), by first | exact Kd.R_nil _ _ _ _ _ | exact Kd.N_nil _ _ _ _ _ | exact Kd.V_nil _ _ _ _ _ | exact Kd.Q_nil _ _ _ _ _ | exact Kd.S_nil _ _ _ _ _, by repeat (first | (with_reducible first | exact HB.out | apply below_alloc | apply pw_below_drewN | apply below_drew1) | exact HB.out)⟩
 subst c6
 rw [if_pos rfl] at H
 replace H := Option.bind_eq_some_iff.mp H
 obtain ⟨t1528, A70, H⟩ := H
 replace H : (some (t1528, true)) = some (r1, r2) := H
 have A7 := Aside0.mk A70
 clear A70
 simp only [Option.some.injEq, Prod.mk.injEq] at H
 obtain ⟨rfl, rfl⟩ := H
 go_enter Try.func48, Try.ntmps48
 go_wp2_with (first | ((with_reducible refine gate_callee (f := 78) rfl ?_); refine goesL_ (some 7) rfl rfl Try.func78 (by kernel_rfl) rfl #[.slice A0 l0.length c0] rfl tm_ ?_; (with_reducible refine (impl_goodWants.calls k _ _ l0 true _ ?side1 ?side2 A3.out).mono ?_); (case side1 => exact ca HR0.out); (case side2 => exact HC0.out); rintro e w' ⟨rfl, ⟨nd, rfl⟩⟩; refine ⟨_, rfl, ?_⟩) | (go_at_call 106; (with_reducible refine (impl_isSpot.calls a1 true _ A5.out).mono ?_); rintro e w' ⟨rfl, ⟨nd, rfl⟩⟩) | ((with_reducible refine gate_callee (f := 107) rfl ?_); refine goesL_ (some 16) rfl rfl Try.func107 (by kernel_rfl) rfl #[.slice A0 l0.length c0, .int .i64 a1] rfl tm_ ?_; (with_reducible refine (impl_joined.calls k _ _ l0 a1 t1528 _ ?side1 ?side2 A7.out).mono ?_); (case side1 => exact ca HR0.out); (case side2 => exact HC0.out); rintro e w8 ⟨v1529, rfl, ho0, hb⟩; refine ⟨_, rfl, ?_⟩; have HO1530 := Aside0.mk (Kd.R_lower ho0 (below_size (hB HB))); replace HB := bst_ HB hb; clear hb ho0))
 go_ret2
 exact ⟨_, by first | rfl | (simp [errW_none, errW_some] <;> rfl) | (simp [*, errW_none, errW_some] <;> rfl), by (with_reducible repeat (first | apply Kd.R_alloc | apply Kd.R_drewN | apply Kd.R_drew)); exact HO1530.out, by repeat (first | (with_reducible first | exact HB.out | apply below_alloc | apply pw_below_drewN | apply below_drew1) | exact HB.out)⟩

end Go.Proofs.Ytfkjnpgpofcinaa.P
