import Derived.Test.YtnoklicihomfoaaF0
import Derived.Test.YtnoklicihomfoaaF1
import Derived.Test.YtnoklicihomfoaaF2
import Derived.Test.YtnoklicihomfoaaF11
import Derived.Test.YtnoklicihomfoaaF12
import Derived.Test.YtnoklicihomfoaaF13
import Derived.Test.YtnoklicihomfoaaF19
import Derived.Test.YtnoklicihomfoaaF37
namespace Go.Proofs.Ytnoklicihomfoaa.P
open Go.RowKit Go.Proofs.YtnoklicihomfoaaW.PrintWords Go.Proofs.YtnoklicihomfoaaW.PrintLast Go.Proofs.YtnoklicihomfoaaW.PrintMore
attribute [local go_sem] max2_int min2_int max_two min_two max_three min_three max_four min_four   -- for this text's walks alone
set_option linter.unusedVariables false
set_option linter.unusedSimpArgs false

def spec_NewCampus.f (k : Nat) (a0 : Int) (l1 : List (S84)) : Option (Int × (List (S84)) × List Int × (List (S118)) × Bool) := (spec_GoodEdges.f k a0 l1).bind fun t760 => (if t760 = true then ((some (([] : List (S84)) : List (S84))).bind fun y761 => (if y761.length + l1.length < 5864062014805 then (some (a0, (y761 ++ l1), ([] : List Int), ([] : List (S118)), true)) else (none))) else (some (0, ([] : List (S84)), ([] : List Int), ([] : List (S118)), false)))
theorem spec_NewCampus.mono : ∀ a0 a1 k, LeO (spec_NewCampus.f k a0 a1) (spec_NewCampus.f (k + 1) a0 a1) := by
 intro a0 a1 k
 unfold spec_NewCampus.f
 repeat' first
   | (with_reducible exact spec_GoodEdges.mono _ _ _)
   | (with_reducible exact LeO.refl _)
   | (with_reducible exact LeO.none _)
   | (with_reducible refine LeO.ite ?_ ?_)
   | (with_reducible refine LeO.bind ?_ (fun _ => ?_))
   | exact spec_GoodEdges.mono _ _ _
   | exact LeO.none _
   | refine LeO.ite ?_ ?_
   | refine LeO.bind ?_ (fun _ => ?_)
set_option maxHeartbeats 8000000 in
set_option maxRecDepth 100000 in
theorem spec_NewCampus.calls (k : Nat) (a0 : Int) (A1 : Option Addr) (c1 : Nat) (l1 : List (S84)) (r1 : Int) (r2 : List (S84)) (r3 : List Int) (r4 : List (S118)) (r5 : Bool) (w : World) (hr1 : Kd.C k84 w A1 l1.length l1) (hc1 : l1.length ≤ c1) (h : spec_NewCampus.f k a0 l1 = some (r1, r2, r3, r4, r5)) :
  Calls Try.prog 45 #[.int .i64 a0, .slice A1 l1.length c1] w fun e w' => ∃ v1_ v2_ v3_ : Value, e = .returned (.tuple #[.agg #[.int .i64 r1, v1_, v2_, v3_], .bool r5]) ∧ Kd.R k84 84 w' w.heap.size (fun _ => True) v1_ r2 ∧ Kd.R (Kd.int .i64) 3 w' w.heap.size (fun _ => True) v2_ r3 ∧ Kd.S k118 118 w' w.heap.size (fun k_ => no_ v2_ k_) v3_ r4 ∧ Below w.heap.size w w' := by
 have hu61 := Try.underlying61
 have HR1 := Aside0.mk hr1
 have HC1 := Aside0.mk hc1
 clear hr1 hc1
 have HB := Aside0.mk (Below.refl w.heap.size w)
 have H : ((spec_GoodEdges.f k a0 l1).bind fun t760 => (if t760 = true then ((some (([] : List (S84)) : List (S84))).bind fun y761 => (if y761.length + l1.length < 5864062014805 then (some (a0, (y761 ++ l1), ([] : List Int), ([] : List (S118)), true)) else (none))) else (some (0, ([] : List (S84)), ([] : List Int), ([] : List (S118)), false)))) = some (r1, r2, r3, r4, r5) := h
 clear h
 replace H := Option.bind_eq_some_iff.mp H
 obtain ⟨t760, A30, H⟩ := H
 replace H : (if t760 = true then ((some (([] : List (S84)) : List (S84))).bind fun y761 => (if y761.length + l1.length < 5864062014805 then (some (a0, (y761 ++ l1), ([] : List Int), ([] : List (S118)), true)) else (none))) else (some (0, ([] : List (S84)), ([] : List Int), ([] : List (S118)), false))) = some (r1, r2, r3, r4, r5) := H
 have A3 := Aside0.mk A30
 clear A30
 by_cases c4 : t760 = true
 rotate_left
 ·replace c4 := Bool.eq_false_iff.mpr c4
  subst c4
  have H1 : (some (0, ([] : List (S84)), ([] : List Int), ([] : List (S118)), false)) = some (r1, r2, r3, r4, r5) := by rw [if_neg (show ¬ (false = true) by decide)] at H; exact H
  clear H
  have H := H1
  clear H1
  simp only [Option.some.injEq, Prod.mk.injEq] at H
  obtain ⟨rfl, rfl, rfl, rfl, rfl⟩ := H
  go_enter Try.func45, Try.ntmps45
  go_wp2_with (first | ((with_reducible refine gate_dst (N := 4) rfl ?_); refine box_event ?hg (N := 4) ?hd (cs := #[.int .i64 0, .slice none 0 0, .slice none 0 0, .slice none 0 0]) (t := 61) ?hr ?_; (case hd => rfl); (case hg => rfl); (case hr => first | (go_simp; done) | (go_simp; rfl)); intro gb759 hg w13 hbox hb; have BK759 := Aside0.mk (hbox); have GW759 := gw_ hg HB; have GE759 := gw_ hg HB; replace HB := bst_ HB hb; clear hb hbox hg) | ((with_reducible refine gate_callee (f := 62) rfl ?_); refine goesL_ (some 8) rfl rfl Try.func62 (by kernel_rfl) rfl #[.int .i64 a0, .slice A1 l1.length c1] rfl tm_ ?_; (with_reducible refine (spec_GoodEdges.calls k a0 _ _ l1 false _ ?side1 ?side2 A3.out).mono ?_); (case side1 => exact ca (Kd.C_below HR1.out HB.out)); (case side2 => exact HC1.out); rintro e w14 ⟨rfl, hb⟩; refine ⟨_, rfl, ?_⟩; replace BK759 := bb_ BK759 hb; replace HB := bst_ HB hb; clear hb; have hcz15_0 : w14.cell? ⟨gb759, 0, none⟩ = some (.int .i64 0) := bc_ BK759 0; have hcz15_1 : w14.cell? ⟨gb759, 1, none⟩ = some (.slice none 0 0) := bc_ BK759 1; have hcz15_2 : w14.cell? ⟨gb759, 2, none⟩ = some (.slice none 0 0) := bc_ BK759 2; have hcz15_3 : w14.cell? ⟨gb759, 3, none⟩ = some (.slice none 0 0) := bc_ BK759 3; have hfz15_0 := blk_frozen BK759.out 0; have hfz15_1 := blk_frozen BK759.out 1; have hfz15_2 := blk_frozen BK759.out 2; have hfz15_3 := blk_frozen BK759.out 3))
  refine bodyPost_ret (results_ct rfl _ _ gb759 61 #[.int .i64 0, .slice none 0 0, .slice none 0 0, .slice none 0 0] (0, 0) _ rfl (by (with_reducible repeat (first | refine blk_drewN ?_ _ | refine blk_drew ?_ | refine blk_alloc ?_ _)); refine blk_put (cs := #[.int .i64 0, .slice none 0 0, .slice none 0 0, .slice none 0 0]) ?_ 3 _ rfl; (with_reducible repeat (first | refine blk_drewN ?_ _ | refine blk_drew ?_ | refine blk_alloc ?_ _)); refine blk_put (cs := #[.int .i64 0, .slice none 0 0, .slice none 0 0, .slice none 0 0]) ?_ 2 _ rfl; (with_reducible repeat (first | refine blk_drewN ?_ _ | refine blk_drew ?_ | refine blk_alloc ?_ _)); refine blk_put (cs := #[.int .i64 0, .slice none 0 0, .slice none 0 0, .slice none 0 0]) ?_ 1 _ rfl; (with_reducible repeat (first | refine blk_drewN ?_ _ | refine blk_drew ?_ | refine blk_alloc ?_ _)); refine blk_put (cs := #[.int .i64 0, .slice none 0 0, .slice none 0 0, .slice none 0 0]) ?_ 0 _ rfl; (with_reducible repeat (first | refine blk_drewN ?_ _ | refine blk_drew ?_ | refine blk_alloc ?_ _)); exact BK759.out) Try.underlying61 rfl (by kernel_rfl)) rfl ?_
  exact ⟨_, _, _, by first | rfl | (simp [errW_none, errW_some] <;> rfl) | (simp [*, errW_none, errW_some] <;> rfl), by first | exact Kd.R_nil _ _ _ _ _ | exact Kd.N_nil _ _ _ _ _ | exact Kd.V_nil _ _ _ _ _ | exact Kd.Q_nil _ _ _ _ _ | exact Kd.S_nil _ _ _ _ _, by first | exact Kd.R_nil _ _ _ _ _ | exact Kd.N_nil _ _ _ _ _ | exact Kd.V_nil _ _ _ _ _ | exact Kd.Q_nil _ _ _ _ _ | exact Kd.S_nil _ _ _ _ _, by first | exact Kd.S_nil _ _ _ _ _ | exact Kd.N_nil _ _ _ _ _ | exact Kd.V_nil _ _ _ _ _ | exact Kd.Q_nil _ _ _ _ _ | exact Kd.R_nil _ _ _ _ _, by repeat (first | (with_reducible first | exact HB.out | apply below_alloc | apply pw_below_drewN | apply below_drew1 | refine below_set ?_ GE759.out) | exact HB.out)⟩
 subst c4
 have H1 : ((some (([] : List (S84)) : List (S84))).bind fun y761 => (if y761.length + l1.length < 5864062014805 then (some (a0, (y761 ++ l1), ([] : List Int), ([] : List (S118)), true)) else (none))) = some (r1, r2, r3, r4, r5) := by rw [if_pos rfl] at H; exact H
 clear H
 have H := H1
 clear H1
 obtain ⟨y761, hy761⟩ : ∃ y_ : List (S84), y_ = (([] : List (S84))) := ⟨_, rfl⟩
 replace H : (if y761.length + l1.length < 5864062014805 then (some (a0, (y761 ++ l1), ([] : List Int), ([] : List (S118)), true)) else (none)) = some (r1, r2, r3, r4, r5) := by first | (rw [hy761]; with_reducible exact H) | (have H2_ := (Option.bind_some _ _).symm.trans H; rw [hy761]; with_reducible exact H2_) | (have H2_ := (Option.bind_some _ _).symm.trans H; with_reducible exact H2_) | with_reducible exact H | (rw [hy761]; exact H) | exact H
 have Ny761 := Aside0.mk hy761
 clear hy761
 by_cases c5 : y761.length + l1.length < 5864062014805
 rotate_left
 ·rw [if_neg c5] at H
  exact absurd H (by simp)
 rw [if_pos c5] at H
 have LMc5 := Aside0.mk c5
 clear c5
 obtain ⟨y764, hy764⟩ : ∃ y_ : List (S84), y_ = (y761 ++ l1) := ⟨_, rfl⟩
 replace H : (some (a0, y764, ([] : List Int), ([] : List (S118)), true)) = some (r1, r2, r3, r4, r5) := by first | (rw [hy764]; with_reducible exact H) | (have H2_ := (Option.bind_some _ _).symm.trans H; rw [hy764]; with_reducible exact H2_) | (have H2_ := (Option.bind_some _ _).symm.trans H; with_reducible exact H2_) | with_reducible exact H | (rw [hy764]; exact H) | exact H
 have Ny764 := Aside0.mk hy764
 clear hy764
 simp only [Option.some.injEq, Prod.mk.injEq] at H
 obtain ⟨rfl, rfl, rfl, rfl, rfl⟩ := H
 go_enter Try.func45, Try.ntmps45
 go_wp2_with (first | ((with_reducible refine gate_dst (N := 4) rfl ?_); refine box_event ?hg (N := 4) ?hd (cs := #[.int .i64 0, .slice none 0 0, .slice none 0 0, .slice none 0 0]) (t := 61) ?hr ?_; (case hd => rfl); (case hg => rfl); (case hr => first | (go_simp; done) | (go_simp; rfl)); intro gb759 hg w6 hbox hb; have BK759 := Aside0.mk (hbox); have GW759 := gw_ hg HB; have GE759 := gw_ hg HB; replace HB := bst_ HB hb; clear hb hbox hg) | ((with_reducible refine gate_callee (f := 62) rfl ?_); refine goesL_ (some 8) rfl rfl Try.func62 (by kernel_rfl) rfl #[.int .i64 a0, .slice A1 l1.length c1] rfl tm_ ?_; (with_reducible refine (spec_GoodEdges.calls k a0 _ _ l1 true _ ?side1 ?side2 A3.out).mono ?_); (case side1 => exact ca (Kd.C_below HR1.out HB.out)); (case side2 => exact HC1.out); rintro e w7 ⟨rfl, hb⟩; refine ⟨_, rfl, ?_⟩; replace BK759 := bb_ BK759 hb; replace HB := bst_ HB hb; clear hb) | ((with_reducible refine gate_dst (N := 12) rfl ?_); refine Kd.R_lit k84 _ 84 ?hg (N := 12) ?hd (xs := ([] : List (S84))) (inner := []) (ok := fun _ => True) (okp := fun _ => True) ?hr ?hp (fun _ hk => hk) trivial (Below.refl _ _) (Nat.le_refl _) (by simp) ?_; (case hd => rfl); (case hg => rfl); (case hr => first | (go_simp; done) | (go_simp; rfl)); (case hp => exact (Reps.none _ _)); intro v762 w8 ho9 hb hg_ hnew_; clear hg_ hnew_; (first | rw [← Ny761.out] at ho9 | (simp only [Int.reduceToNat] at ho9; rw [← Ny761.out] at ho9)); have HO763 := Aside0.mk (Kd.R_lower ho9 (below_size (hB HB))); replace BK759 := bb_ BK759 hb; replace HB := bst_ HB hb; clear hb ho9) | ((with_reducible refine gate_builtin (b := .append) (xs := #[.tmp 12, .tmp 13]) rfl ?_); at_builtin; refine Kd.R_append_rows k84 (w0 := w) w.heap.size rfl (.tmp 12) (.tmp 13) 25 84 (.agg #[(.int .i64 0), (.int .i64 0), (.int .i64 0)]) 24 rfl Try.underlying25 info84 rfl (by decide) (by omega) v762 y761 l1 _ _ _ (fun _ => True) (fun _ => False) rfl rfl ?aO ?aR (fun _ _ h => h) (fun _ h => h.elim) ?aF ?aB ?aS ?aL ?_; (case aR => exact ca (Kd.C_below HR1.out HB.out)); (case aB => exact (hB HB)); (case aF => exact (fun _ _ => trivial)); (case aO => exact (ra HO763.out)); (case aS => exact (below_size (hB HB))); (case aL => have := LMc5.out; omega); intro v765 w10 ho hb hg hat; rw [← Ny764.out] at ho; have HO766 := Aside0.mk (ho); replace BK759 := Aside0.mk (blk_grown (g := gb759) (o := .cells #[.int .i64 0, .slice none 0 0, .slice none 0 0, .slice none 0 0] 61 (0, 0)) (ba BK759.out) hg (Kd.R_ne HO763.out BK759.out (by decide))); replace HB := Aside0.mk (hb); clear HO763; clear ho hb hg hat; obtain ⟨Ao11, co11, eo11⟩ := Kd.R_slice HO766.out; subst eo11; have hcz12_0 : w10.cell? ⟨gb759, 0, none⟩ = some (.int .i64 0) := bc_ BK759 0; have hcz12_1 : w10.cell? ⟨gb759, 1, none⟩ = some (.slice none 0 0) := bc_ BK759 1; have hcz12_2 : w10.cell? ⟨gb759, 2, none⟩ = some (.slice none 0 0) := bc_ BK759 2; have hcz12_3 : w10.cell? ⟨gb759, 3, none⟩ = some (.slice none 0 0) := bc_ BK759 3; have hfz12_0 := blk_frozen BK759.out 0; have hfz12_1 := blk_frozen BK759.out 1; have hfz12_2 := blk_frozen BK759.out 2; have hfz12_3 := blk_frozen BK759.out 3))
 refine bodyPost_ret (results_ct rfl _ _ gb759 61 #[.int .i64 a0, .slice Ao11 y764.length co11, .slice none 0 0, .slice none 0 0] (0, 0) _ rfl (by (with_reducible repeat (first | refine blk_drewN ?_ _ | refine blk_drew ?_ | refine blk_alloc ?_ _)); refine blk_put (cs := #[.int .i64 a0, .slice Ao11 y764.length co11, .slice none 0 0, .slice none 0 0]) ?_ 3 _ rfl; (with_reducible repeat (first | refine blk_drewN ?_ _ | refine blk_drew ?_ | refine blk_alloc ?_ _)); refine blk_put (cs := #[.int .i64 a0, .slice Ao11 y764.length co11, .slice none 0 0, .slice none 0 0]) ?_ 2 _ rfl; (with_reducible repeat (first | refine blk_drewN ?_ _ | refine blk_drew ?_ | refine blk_alloc ?_ _)); refine blk_put (cs := #[.int .i64 a0, .slice none 0 0, .slice none 0 0, .slice none 0 0]) ?_ 1 _ rfl; (with_reducible repeat (first | refine blk_drewN ?_ _ | refine blk_drew ?_ | refine blk_alloc ?_ _)); refine blk_put (cs := #[.int .i64 0, .slice none 0 0, .slice none 0 0, .slice none 0 0]) ?_ 0 _ rfl; (with_reducible repeat (first | refine blk_drewN ?_ _ | refine blk_drew ?_ | refine blk_alloc ?_ _)); exact BK759.out) Try.underlying61 rfl (by kernel_rfl)) rfl ?_
 exact ⟨_, _, _, by first | rfl | (simp [errW_none, errW_some] <;> rfl) | (simp [*, errW_none, errW_some] <;> rfl), by (with_reducible repeat (first | apply Kd.R_alloc | apply Kd.R_drewN | apply Kd.R_drew)); exact Kd.R_mono (fs4_ HO766.out BK759.out) (fun _ hk => trivial), by first | exact Kd.R_nil _ _ _ _ _ | exact Kd.N_nil _ _ _ _ _ | exact Kd.V_nil _ _ _ _ _ | exact Kd.Q_nil _ _ _ _ _ | exact Kd.S_nil _ _ _ _ _, by first | exact Kd.S_nil _ _ _ _ _ | exact Kd.N_nil _ _ _ _ _ | exact Kd.V_nil _ _ _ _ _ | exact Kd.Q_nil _ _ _ _ _ | exact Kd.R_nil _ _ _ _ _, by repeat (first | (with_reducible first | exact HB.out | apply below_alloc | apply pw_below_drewN | apply below_drew1 | refine below_set ?_ GE759.out) | exact HB.out)⟩

def impl_newCampus.f (a0 : Int) (l1 : List (S84)) : Option (Int × (List (S84)) × List Int × (List (S118))) := (impl_Edge.f l1).bind fun t774 => (some (a0, t774, ([] : List Int), ([] : List (S118))))
set_option maxHeartbeats 8000000 in
set_option maxRecDepth 100000 in
theorem impl_newCampus.calls (a0 : Int) (A1 : Option Addr) (c1 : Nat) (l1 : List (S84)) (r1 : Int) (r2 : List (S84)) (r3 : List Int) (r4 : List (S118)) (w : World) (hr1 : Kd.C k84 w A1 l1.length l1) (hc1 : l1.length ≤ c1) (h : impl_newCampus.f a0 l1 = some (r1, r2, r3, r4)) :
  Calls Try.prog 92 #[.int .i64 a0, .slice A1 l1.length c1] w fun e w' => ∃ v1_ v2_ v3_ : Value, e = .returned (.agg #[.int .i64 r1, v1_, v2_, v3_]) ∧ Kd.R k84 84 w' w.heap.size (fun _ => True) v1_ r2 ∧ Kd.R (Kd.int .i64) 3 w' w.heap.size (fun _ => True) v2_ r3 ∧ Kd.S k118 118 w' w.heap.size (fun k_ => no_ v2_ k_) v3_ r4 ∧ Below w.heap.size w w' := by
 have hu61 := Try.underlying61
 have HR1 := Aside0.mk hr1
 have HC1 := Aside0.mk hc1
 clear hr1 hc1
 have HB := Aside0.mk (Below.refl w.heap.size w)
 have H : ((impl_Edge.f l1).bind fun t774 => (some (a0, t774, ([] : List Int), ([] : List (S118))))) = some (r1, r2, r3, r4) := h
 clear h
 replace H := Option.bind_eq_some_iff.mp H
 obtain ⟨t774, A30, H⟩ := H
 replace H : (some (a0, t774, ([] : List Int), ([] : List (S118)))) = some (r1, r2, r3, r4) := H
 have A3 := Aside0.mk A30
 clear A30
 simp only [Option.some.injEq, Prod.mk.injEq] at H
 obtain ⟨rfl, rfl, rfl, rfl⟩ := H
 go_enter Try.func92, Try.ntmps92
 go_wp2_with (first | ((with_reducible refine gate_dst (N := 4) rfl ?_); refine box_event ?hg (N := 4) ?hd (cs := #[.int .i64 0, .slice none 0 0, .slice none 0 0, .slice none 0 0]) (t := 61) ?hr ?_; (case hd => rfl); (case hg => rfl); (case hr => first | (go_simp; done) | (go_simp; rfl)); intro gb773 hg w4 hbox hb; have BK773 := Aside0.mk (hbox); have GW773 := gw_ hg HB; have GE773 := gw_ hg HB; replace HB := bst_ HB hb; clear hb hbox hg) | ((with_reducible refine gate_callee (f := 113) rfl ?_); refine goesL_ (some 7) rfl rfl Try.func113 (by kernel_rfl) rfl #[.slice A1 l1.length c1] rfl tm_ ?_; (with_reducible refine (impl_Edge.calls _ _ l1 t774 _ ?side1 ?side2 A3.out).mono ?_); (case side1 => exact ca (Kd.C_below HR1.out HB.out)); (case side2 => exact HC1.out); rintro e w5 ⟨v775, rfl, ho0, hb⟩; refine ⟨_, rfl, ?_⟩; have HO776 := Aside0.mk (Kd.R_lower ho0 (below_size (hB HB))); replace BK773 := bb_ BK773 hb; replace HB := bst_ HB hb; clear hb ho0; obtain ⟨Ao6, co6, eo6⟩ := Kd.R_slice HO776.out; subst eo6; have hcz7_0 : w5.cell? ⟨gb773, 0, none⟩ = some (.int .i64 0) := bc_ BK773 0; have hcz7_1 : w5.cell? ⟨gb773, 1, none⟩ = some (.slice none 0 0) := bc_ BK773 1; have hcz7_2 : w5.cell? ⟨gb773, 2, none⟩ = some (.slice none 0 0) := bc_ BK773 2; have hcz7_3 : w5.cell? ⟨gb773, 3, none⟩ = some (.slice none 0 0) := bc_ BK773 3; have hfz7_0 := blk_frozen BK773.out 0; have hfz7_1 := blk_frozen BK773.out 1; have hfz7_2 := blk_frozen BK773.out 2; have hfz7_3 := blk_frozen BK773.out 3))
 refine bodyPost_ret (results_cell_row rfl _ _ gb773 61 #[.int .i64 a0, .slice Ao6 t774.length co6, .slice none 0 0, .slice none 0 0] (0, 0) _ rfl (by (with_reducible repeat (first | refine blk_drewN ?_ _ | refine blk_drew ?_ | refine blk_alloc ?_ _)); refine blk_put (cs := #[.int .i64 a0, .slice Ao6 t774.length co6, .slice none 0 0, .slice none 0 0]) ?_ 3 _ rfl; (with_reducible repeat (first | refine blk_drewN ?_ _ | refine blk_drew ?_ | refine blk_alloc ?_ _)); refine blk_put (cs := #[.int .i64 a0, .slice Ao6 t774.length co6, .slice none 0 0, .slice none 0 0]) ?_ 2 _ rfl; (with_reducible repeat (first | refine blk_drewN ?_ _ | refine blk_drew ?_ | refine blk_alloc ?_ _)); refine blk_put (cs := #[.int .i64 a0, .slice none 0 0, .slice none 0 0, .slice none 0 0]) ?_ 1 _ rfl; (with_reducible repeat (first | refine blk_drewN ?_ _ | refine blk_drew ?_ | refine blk_alloc ?_ _)); refine blk_put (cs := #[.int .i64 0, .slice none 0 0, .slice none 0 0, .slice none 0 0]) ?_ 0 _ rfl; (with_reducible repeat (first | refine blk_drewN ?_ _ | refine blk_drew ?_ | refine blk_alloc ?_ _)); exact BK773.out) Try.underlying61 rfl (by kernel_rfl)) rfl ?_
 exact ⟨_, _, _, by first | rfl | (simp [errW_none, errW_some] <;> rfl) | (simp [*, errW_none, errW_some] <;> rfl), by (with_reducible repeat (first | apply Kd.R_alloc | apply Kd.R_drewN | apply Kd.R_drew)); exact Kd.R_mono (fs4_ HO776.out BK773.out) (fun _ hk => trivial), by first | exact Kd.R_nil _ _ _ _ _ | exact Kd.N_nil _ _ _ _ _ | exact Kd.V_nil _ _ _ _ _ | exact Kd.Q_nil _ _ _ _ _ | exact Kd.S_nil _ _ _ _ _, by first | exact Kd.S_nil _ _ _ _ _ | exact Kd.N_nil _ _ _ _ _ | exact Kd.V_nil _ _ _ _ _ | exact Kd.Q_nil _ _ _ _ _ | exact Kd.R_nil _ _ _ _ _, by repeat (first | (with_reducible first | exact HB.out | apply below_alloc | apply pw_below_drewN | apply below_drew1 | refine below_set ?_ GE773.out) | exact HB.out)⟩

def impl_NewCampus.f (k : Nat) (a0 : Int) (l1 : List (S84)) : Option (Int × (List (S84)) × List Int × (List (S118)) × Bool) := (impl_GoodEdges.f k a0 l1).bind fun t778 => (if t778 = true then ((impl_newCampus.f a0 l1).bind fun bt779 => (some (bt779.1, bt779.2.1, bt779.2.2.1, bt779.2.2.2, true))) else (some (0, ([] : List (S84)), ([] : List Int), ([] : List (S118)), false)))
theorem impl_NewCampus.mono : ∀ a0 a1 k, LeO (impl_NewCampus.f k a0 a1) (impl_NewCampus.f (k + 1) a0 a1) := by
 intro a0 a1 k
 unfold impl_NewCampus.f
 repeat' first
   | (with_reducible exact impl_GoodEdges.mono _ _ _)
   | (with_reducible exact LeO.refl _)
   | (with_reducible exact LeO.none _)
   | (with_reducible refine LeO.ite ?_ ?_)
   | (with_reducible refine LeO.bind ?_ (fun _ => ?_))
   | exact impl_GoodEdges.mono _ _ _
   | exact LeO.none _
   | refine LeO.ite ?_ ?_
   | refine LeO.bind ?_ (fun _ => ?_)
set_option maxHeartbeats 8000000 in
set_option maxRecDepth 100000 in
theorem impl_NewCampus.calls (k : Nat) (a0 : Int) (A1 : Option Addr) (c1 : Nat) (l1 : List (S84)) (r1 : Int) (r2 : List (S84)) (r3 : List Int) (r4 : List (S118)) (r5 : Bool) (w : World) (hr1 : Kd.C k84 w A1 l1.length l1) (hc1 : l1.length ≤ c1) (h : impl_NewCampus.f k a0 l1 = some (r1, r2, r3, r4, r5)) :
  Calls Try.prog 46 #[.int .i64 a0, .slice A1 l1.length c1] w fun e w' => ∃ v1_ v2_ v3_ : Value, e = .returned (.tuple #[.agg #[.int .i64 r1, v1_, v2_, v3_], .bool r5]) ∧ Kd.R k84 84 w' w.heap.size (fun _ => True) v1_ r2 ∧ Kd.R (Kd.int .i64) 3 w' w.heap.size (fun _ => True) v2_ r3 ∧ Kd.S k118 118 w' w.heap.size (fun k_ => no_ v2_ k_) v3_ r4 ∧ Below w.heap.size w w' := by
 have hu61 := Try.underlying61
 have HR1 := Aside0.mk hr1
 have HC1 := Aside0.mk hc1
 clear hr1 hc1
 have HB := Aside0.mk (Below.refl w.heap.size w)
 have H : ((impl_GoodEdges.f k a0 l1).bind fun t778 => (if t778 = true then ((impl_newCampus.f a0 l1).bind fun bt779 => (some (bt779.1, bt779.2.1, bt779.2.2.1, bt779.2.2.2, true))) else (some (0, ([] : List (S84)), ([] : List Int), ([] : List (S118)), false)))) = some (r1, r2, r3, r4, r5) := h
 clear h
 replace H := Option.bind_eq_some_iff.mp H
 obtain ⟨t778, A30, H⟩ := H
 replace H : (if t778 = true then ((impl_newCampus.f a0 l1).bind fun bt779 => (some (bt779.1, bt779.2.1, bt779.2.2.1, bt779.2.2.2, true))) else (some (0, ([] : List (S84)), ([] : List Int), ([] : List (S118)), false))) = some (r1, r2, r3, r4, r5) := H
 have A3 := Aside0.mk A30
 clear A30
 by_cases c4 : t778 = true
 rotate_left
 ·replace c4 := Bool.eq_false_iff.mpr c4
  subst c4
  have H1 : (some (0, ([] : List (S84)), ([] : List Int), ([] : List (S118)), false)) = some (r1, r2, r3, r4, r5) := by rw [if_neg (show ¬ (false = true) by decide)] at H; exact H
  clear H
  have H := H1
  clear H1
  simp only [Option.some.injEq, Prod.mk.injEq] at H
  obtain ⟨rfl, rfl, rfl, rfl, rfl⟩ := H
  go_enter Try.func46, Try.ntmps46
  go_wp2_with (first | ((with_reducible refine gate_dst (N := 4) rfl ?_); refine box_event ?hg (N := 4) ?hd (cs := #[.int .i64 0, .slice none 0 0, .slice none 0 0, .slice none 0 0]) (t := 61) ?hr ?_; (case hd => rfl); (case hg => rfl); (case hr => first | (go_simp; done) | (go_simp; rfl)); intro gb777 hg w13 hbox hb; have BK777 := Aside0.mk (hbox); have GW777 := gw_ hg HB; have GE777 := gw_ hg HB; replace HB := bst_ HB hb; clear hb hbox hg) | ((with_reducible refine gate_callee (f := 71) rfl ?_); refine goesL_ (some 8) rfl rfl Try.func71 (by kernel_rfl) rfl #[.int .i64 a0, .slice A1 l1.length c1] rfl tm_ ?_; (with_reducible refine (impl_GoodEdges.calls k a0 _ _ l1 false _ ?side1 ?side2 A3.out).mono ?_); (case side1 => exact ca (Kd.C_below HR1.out HB.out)); (case side2 => exact HC1.out); rintro e w14 ⟨rfl, hb⟩; refine ⟨_, rfl, ?_⟩; replace BK777 := bb_ BK777 hb; replace HB := bst_ HB hb; clear hb; have hcz15_0 : w14.cell? ⟨gb777, 0, none⟩ = some (.int .i64 0) := bc_ BK777 0; have hcz15_1 : w14.cell? ⟨gb777, 1, none⟩ = some (.slice none 0 0) := bc_ BK777 1; have hcz15_2 : w14.cell? ⟨gb777, 2, none⟩ = some (.slice none 0 0) := bc_ BK777 2; have hcz15_3 : w14.cell? ⟨gb777, 3, none⟩ = some (.slice none 0 0) := bc_ BK777 3; have hfz15_0 := blk_frozen BK777.out 0; have hfz15_1 := blk_frozen BK777.out 1; have hfz15_2 := blk_frozen BK777.out 2; have hfz15_3 := blk_frozen BK777.out 3))
  refine bodyPost_ret (results_ct rfl _ _ gb777 61 #[.int .i64 0, .slice none 0 0, .slice none 0 0, .slice none 0 0] (0, 0) _ rfl (by (with_reducible repeat (first | refine blk_drewN ?_ _ | refine blk_drew ?_ | refine blk_alloc ?_ _)); refine blk_put (cs := #[.int .i64 0, .slice none 0 0, .slice none 0 0, .slice none 0 0]) ?_ 3 _ rfl; (with_reducible repeat (first | refine blk_drewN ?_ _ | refine blk_drew ?_ | refine blk_alloc ?_ _)); refine blk_put (cs := #[.int .i64 0, .slice none 0 0, .slice none 0 0, .slice none 0 0]) ?_ 2 _ rfl; (with_reducible repeat (first | refine blk_drewN ?_ _ | refine blk_drew ?_ | refine blk_alloc ?_ _)); refine blk_put (cs := #[.int .i64 0, .slice none 0 0, .slice none 0 0, .slice none 0 0]) ?_ 1 _ rfl; (with_reducible repeat (first | refine blk_drewN ?_ _ | refine blk_drew ?_ | refine blk_alloc ?_ _)); refine blk_put (cs := #[.int .i64 0, .slice none 0 0, .slice none 0 0, .slice none 0 0]) ?_ 0 _ rfl; (with_reducible repeat (first | refine blk_drewN ?_ _ | refine blk_drew ?_ | refine blk_alloc ?_ _)); exact BK777.out) Try.underlying61 rfl (by kernel_rfl)) rfl ?_
  exact ⟨_, _, _, by first | rfl | (simp [errW_none, errW_some] <;> rfl) | (simp [*, errW_none, errW_some] <;> rfl), by first | exact Kd.R_nil _ _ _ _ _ | exact Kd.N_nil _ _ _ _ _ | exact Kd.V_nil _ _ _ _ _ | exact Kd.Q_nil _ _ _ _ _ | exact Kd.S_nil _ _ _ _ _, by first | exact Kd.R_nil _ _ _ _ _ | exact Kd.N_nil _ _ _ _ _ | exact Kd.V_nil _ _ _ _ _ | exact Kd.Q_nil _ _ _ _ _ | exact Kd.S_nil _ _ _ _ _, by first | exact Kd.S_nil _ _ _ _ _ | exact Kd.N_nil _ _ _ _ _ | exact Kd.V_nil _ _ _ _ _ | exact Kd.Q_nil _ _ _ _ _ | exact Kd.R_nil _ _ _ _ _, by repeat (first | (with_reducible first | exact HB.out | apply below_alloc | apply pw_below_drewN | apply below_drew1 | refine below_set ?_ GE777.out) | exact HB.out)⟩
 subst c4
 have H1 : ((impl_newCampus.f a0 l1).bind fun bt779 => (some (bt779.1, bt779.2.1, bt779.2.2.1, bt779.2.2.2, true))) = some (r1, r2, r3, r4, r5) := by rw [if_pos rfl] at H; exact H
 clear H
 have H := H1
 clear H1
 replace H := Option.bind_eq_some_iff.mp H
 obtain ⟨⟨t779, t780, t783, t786⟩, A50, H⟩ := H
 replace H : (some (t779, t780, t783, t786, true)) = some (r1, r2, r3, r4, r5) := H
 have A5 := Aside0.mk A50
 clear A50
 simp only [Option.some.injEq, Prod.mk.injEq] at H
 obtain ⟨rfl, rfl, rfl, rfl, rfl⟩ := H
 go_enter Try.func46, Try.ntmps46
 go_wp2_with (first | ((with_reducible refine gate_dst (N := 4) rfl ?_); refine box_event ?hg (N := 4) ?hd (cs := #[.int .i64 0, .slice none 0 0, .slice none 0 0, .slice none 0 0]) (t := 61) ?hr ?_; (case hd => rfl); (case hg => rfl); (case hr => first | (go_simp; done) | (go_simp; rfl)); intro gb777 hg w6 hbox hb; have BK777 := Aside0.mk (hbox); have GW777 := gw_ hg HB; have GE777 := gw_ hg HB; replace HB := bst_ HB hb; clear hb hbox hg) | ((with_reducible refine gate_callee (f := 71) rfl ?_); refine goesL_ (some 8) rfl rfl Try.func71 (by kernel_rfl) rfl #[.int .i64 a0, .slice A1 l1.length c1] rfl tm_ ?_; (with_reducible refine (impl_GoodEdges.calls k a0 _ _ l1 true _ ?side1 ?side2 A3.out).mono ?_); (case side1 => exact ca (Kd.C_below HR1.out HB.out)); (case side2 => exact HC1.out); rintro e w7 ⟨rfl, hb⟩; refine ⟨_, rfl, ?_⟩; replace BK777 := bb_ BK777 hb; replace HB := bst_ HB hb; clear hb) | ((with_reducible refine gate_callee (f := 92) rfl ?_); refine goesL_ (some 13) rfl rfl Try.func92 (by kernel_rfl) rfl #[.int .i64 a0, .slice A1 l1.length c1] rfl tm_ ?_; (with_reducible refine (impl_newCampus.calls a0 _ _ l1 t779 t780 t783 t786 _ ?side1 ?side2 A5.out).mono ?_); (case side1 => exact ca (Kd.C_below HR1.out HB.out)); (case side2 => exact HC1.out); rintro e w8 ⟨v781, v784, v787, rfl, ho0, ho1, ho2, hb⟩; refine ⟨_, rfl, ?_⟩; have HO782 := Aside0.mk (Kd.R_lower ho0 (below_size (hB HB))); have HO785 := Aside0.mk (Kd.R_lower ho1 (below_size (hB HB))); have HO788 := Aside0.mk (Kd.S_lower ho2 (below_size (hB HB))); replace BK777 := bb_ BK777 hb; replace HB := bst_ HB hb; clear hb ho0 ho1 ho2; have hcz9_0 : w8.cell? ⟨gb777, 0, none⟩ = some (.int .i64 0) := bc_ BK777 0; have hcz9_1 : w8.cell? ⟨gb777, 1, none⟩ = some (.slice none 0 0) := bc_ BK777 1; have hcz9_2 : w8.cell? ⟨gb777, 2, none⟩ = some (.slice none 0 0) := bc_ BK777 2; have hcz9_3 : w8.cell? ⟨gb777, 3, none⟩ = some (.slice none 0 0) := bc_ BK777 3; have hfz9_0 := blk_frozen BK777.out 0; have hfz9_1 := blk_frozen BK777.out 1; have hfz9_2 := blk_frozen BK777.out 2; have hfz9_3 := blk_frozen BK777.out 3; obtain ⟨Ao10, co10, eo10⟩ := Kd.R_slice HO782.out; subst eo10; obtain ⟨Ao11, co11, eo11⟩ := Kd.R_slice HO785.out; subst eo11; obtain ⟨Ao12, co12, eo12⟩ := Kd.S_slice HO788.out; subst eo12))
 refine bodyPost_ret (results_ct rfl _ _ gb777 61 #[.int .i64 t779, .slice Ao10 t780.length co10, .slice Ao11 t783.length co11, .slice Ao12 t786.length co12] (0, 0) _ rfl (by (with_reducible repeat (first | refine blk_drewN ?_ _ | refine blk_drew ?_ | refine blk_alloc ?_ _)); refine blk_put (cs := #[.int .i64 t779, .slice Ao10 t780.length co10, .slice Ao11 t783.length co11, .slice none 0 0]) ?_ 3 _ rfl; (with_reducible repeat (first | refine blk_drewN ?_ _ | refine blk_drew ?_ | refine blk_alloc ?_ _)); refine blk_put (cs := #[.int .i64 t779, .slice Ao10 t780.length co10, .slice none 0 0, .slice none 0 0]) ?_ 2 _ rfl; (with_reducible repeat (first | refine blk_drewN ?_ _ | refine blk_drew ?_ | refine blk_alloc ?_ _)); refine blk_put (cs := #[.int .i64 t779, .slice none 0 0, .slice none 0 0, .slice none 0 0]) ?_ 1 _ rfl; (with_reducible repeat (first | refine blk_drewN ?_ _ | refine blk_drew ?_ | refine blk_alloc ?_ _)); refine blk_put (cs := #[.int .i64 0, .slice none 0 0, .slice none 0 0, .slice none 0 0]) ?_ 0 _ rfl; (with_reducible repeat (first | refine blk_drewN ?_ _ | refine blk_drew ?_ | refine blk_alloc ?_ _)); exact BK777.out) Try.underlying61 rfl (by kernel_rfl)) rfl ?_
 exact ⟨_, _, _, by first | rfl | (simp [errW_none, errW_some] <;> rfl) | (simp [*, errW_none, errW_some] <;> rfl), by (with_reducible repeat (first | apply Kd.R_alloc | apply Kd.R_drewN | apply Kd.R_drew)); exact Kd.R_mono (fs4_ HO782.out BK777.out) (fun _ hk => trivial), by (with_reducible repeat (first | apply Kd.R_alloc | apply Kd.R_drewN | apply Kd.R_drew)); exact Kd.R_mono (fs4_ HO785.out BK777.out) (fun _ hk => trivial), by (with_reducible repeat (first | apply Kd.S_alloc | apply Kd.S_drewN | apply Kd.S_drew)); exact Kd.S_mono (Kd.S_far (p := ⟨gb777, 3, none⟩) (Kd.S_far (p := ⟨gb777, 2, none⟩) (Kd.S_far (p := ⟨gb777, 1, none⟩) (Kd.S_far (p := ⟨gb777, 0, none⟩) (Kd.S_types HO788.out BK777.out (by decide)) (fun _ hk => hk.2) (.int .i64 t779)) (fun _ hk => hk.2) (.slice Ao10 t780.length co10)) (fun _ hk => hk.2) (.slice Ao11 t783.length co11)) (fun _ hk => hk.2) (.slice Ao12 t786.length co12)) (fun _ hk => hk.1), by repeat (first | (with_reducible first | exact HB.out | apply below_alloc | apply pw_below_drewN | apply below_drew1 | refine below_set ?_ GE777.out) | exact HB.out)⟩

def laws_markPlaceS.l0 : Nat → List (S118) → Int → Int → Option (Int)
 | 0, _, _, _ => none
 | k + 1, x0, x1, x5 => if x5 < (x0.length : Int) then (if 0 ≤ (-1) then (if (-1) < (x0.length : Int) then (laws_markPlaceS.l0 k x0 x1 (wrap64 (x5 + 1))) else (none)) else (none)) else (some x1)
def laws_markPlaceS.f (k : Nat) (l0 : List (S118)) (a1 : Int) : Option (Int) := laws_markPlaceS.l0 k l0 a1 0
theorem laws_markPlaceS.mono_l : ∀ k, (∀ y0 y1 y2, LeO (laws_markPlaceS.l0 k y0 y1 y2) (laws_markPlaceS.l0 (k + 1) y0 y1 y2))
 | 0 => fun _ _ _ r h => by simp [laws_markPlaceS.l0] at h
 | k + 1 => by
  have ih0 := laws_markPlaceS.mono_l k
  ·intro y0 y1 y2
   unfold laws_markPlaceS.l0
   repeat' first
   | (with_reducible exact ih0 _ _ _)
   | (with_reducible exact LeO.refl _)
   | (with_reducible exact LeO.none _)
   | (with_reducible refine LeO.ite ?_ ?_)
   | (with_reducible refine LeO.bind ?_ (fun _ => ?_))
   | exact ih0 _ _ _
   | exact LeO.none _
   | refine LeO.ite ?_ ?_
   | refine LeO.bind ?_ (fun _ => ?_)
theorem laws_markPlaceS.mono : ∀ a0 a1 k, LeO (laws_markPlaceS.f k a0 a1) (laws_markPlaceS.f (k + 1) a0 a1) := by
 intro a0 a1 k
 have ih0 := laws_markPlaceS.mono_l k
 unfold laws_markPlaceS.f
 repeat' first
   | (with_reducible exact ih0 _ _ _)
   | (with_reducible exact LeO.refl _)
   | (with_reducible exact LeO.none _)
   | (with_reducible refine LeO.ite ?_ ?_)
   | (with_reducible refine LeO.bind ?_ (fun _ => ?_))
   | exact ih0 _ _ _
   | exact LeO.none _
   | refine LeO.ite ?_ ?_
   | refine LeO.bind ?_ (fun _ => ?_)
set_option maxHeartbeats 8000000 in
set_option maxRecDepth 100000 in
theorem laws_markPlaceS.calls (k : Nat) (A0 : Option Addr) (c0 : Nat) (l0 : List (S118)) (a1 : Int) (r : Int) (w : World) (hr0 : Kd.C k118 w A0 l0.length l0) (hc0 : l0.length ≤ c0) (h : laws_markPlaceS.f k l0 a1 = some r) :
  Calls Try.prog 94 #[.slice A0 l0.length c0, .int .i64 a1] w fun e w' => e = .returned (.int .i64 r) ∧ Drawn0 w w' := by
 have HR0 := Aside0.mk hr0
 have HC0 := Aside0.mk hc0
 clear hr0 hc0
 have H : (laws_markPlaceS.l0 k l0 a1 0) = some r := h
 clear h
 have H' := Aside0.mk H
 clear H
 go_enter Try.func94, Try.ntmps94
 go_wp2
 go_loopg [1, 5] k (fun kq v1 v5 w' => ∃ (x5_1 : Int), v1 = .int .i64 a1 ∧ v5 = .int .i64 x5_1 ∧ Aside0 (laws_markPlaceS.l0 kq l0 a1 x5_1 = some r) ∧ Aside0 (kq ≤ k) ∧ Drawn0 w w')
 case atStart => exact ⟨(0), rfl, (by first | rfl | (simp; done) | (simp [*]; done)), H', ⟨Nat.le_refl _⟩, by repeat (first | exact Drawn0.refl _ | apply Drawn0.step)⟩
 case round =>
  clear H'
  try clear p2
  obtain ⟨x5_1, rfl, rfl, HA, HK1, ⟨m1, rfl⟩⟩ := hrel
  cases gk with
  | zero => exact absurd HA.out (by simp [laws_markPlaceS.l0])
  | succ k1 =>
   have H := HA.out
   clear HA
   simp only [laws_markPlaceS.l0] at H
   by_cases c3 : x5_1 < (l0.length : Int)
   rotate_left
   ·rw [if_neg c3] at H
    have c3b0 : decide (x5_1 < (l0.length : Int)) = false := decide_eq_false c3
    clear c3
    obtain rfl := Option.some.inj H
    go_wp2
    go_ret
    exact ⟨by first | rfl | (simp; done) | (simp [*]; done), by repeat (first | exact Drawn0.refl _ | apply Drawn0.step)⟩
   rw [if_pos c3] at H
   have c3b0 : decide (x5_1 < (l0.length : Int)) = true := decide_eq_true c3
   clear c3
   by_cases c4 : 0 ≤ (-1)
   rotate_left
   ·rw [if_neg c4] at H
    exact absurd H (by simp)
   exact absurd c4 (by decide)

def laws_markCampus.f (k : Nat) (a0_0 : Int) (l0_1 : List (S84)) (l0_2 : List Int) (l0_3 : List (S118)) (a1 : Int) : Option (Int × (List (S84)) × List Int) := (laws_markEdgeS.f k l0_1 a1).bind fun bt802 => ((laws_markIntS.f k l0_2 bt802.1).bind fun bt804 => ((laws_markPlaceS.f k l0_3 bt804.1).bind fun t806 => (some (t806, bt802.2, bt804.2))))
theorem laws_markCampus.mono : ∀ a0 a1 a2 a3 a4 k, LeO (laws_markCampus.f k a0 a1 a2 a3 a4) (laws_markCampus.f (k + 1) a0 a1 a2 a3 a4) := by
 intro a0 a1 a2 a3 a4 k
 unfold laws_markCampus.f
 repeat' first
   | (with_reducible exact laws_markEdgeS.mono _ _ _)
   | (with_reducible exact laws_markIntS.mono _ _ _)
   | (with_reducible exact laws_markPlaceS.mono _ _ _)
   | (with_reducible exact LeO.refl _)
   | (with_reducible exact LeO.none _)
   | (with_reducible refine LeO.ite ?_ ?_)
   | (with_reducible refine LeO.bind ?_ (fun _ => ?_))
   | exact laws_markEdgeS.mono _ _ _
   | exact laws_markIntS.mono _ _ _
   | exact laws_markPlaceS.mono _ _ _
   | exact LeO.none _
   | refine LeO.ite ?_ ?_
   | refine LeO.bind ?_ (fun _ => ?_)
set_option maxHeartbeats 8000000 in
set_option maxRecDepth 100000 in
theorem laws_markCampus.calls (k : Nat) (a0_0 : Int) (P0_1_ : Nat → Prop) (u9000_ : Value) (l0_1 : List (S84)) (P0_2_ : Nat → Prop) (u9001_ : Value) (l0_2 : List Int) (A0_3 : Option Addr) (c0_3 : Nat) (l0_3 : List (S118)) (a1 : Int) (r1 : Int) (r2 : List (S84)) (r3 : List Int) (w0 w : World) (hB : Below w0.heap.size w0 w) (ho0_1 : Kd.R k84 84 w w0.heap.size P0_1_ u9000_ l0_1) (ho0_2 : Kd.R (Kd.int .i64) 3 w w0.heap.size P0_2_ u9001_ l0_2) (hr0_3 : ∀ W_, Kept w W_ (fun k_ => P0_1_ k_ ∨ P0_2_ k_) → Kd.C k118 W_ A0_3 l0_3.length l0_3) (hc0_3 : l0_3.length ≤ c0_3) (h : laws_markCampus.f k a0_0 l0_1 l0_2 l0_3 a1 = some (r1, r2, r3)) :
  Calls Try.prog 48 #[.agg #[.int .i64 a0_0, u9000_, u9001_, .slice A0_3 l0_3.length c0_3], .int .i64 a1] w fun e w' => e = .returned (.int .i64 r1) ∧ Kd.R k84 84 w' w0.heap.size (fun k_ => ((P0_1_ k_ ∨ P0_2_ k_) ∨ w.heap.size ≤ k_)) u9000_ r2 ∧ Kd.R (Kd.int .i64) 3 w' w0.heap.size (fun k_ => ((P0_1_ k_ ∨ P0_2_ k_) ∨ w.heap.size ≤ k_)) u9001_ r3 ∧ Below w0.heap.size w0 w' ∧ Kept w w' (fun k_ => P0_1_ k_ ∨ P0_2_ k_) := by
 have hu61 := Try.underlying61
 have HO0_1 := Aside0.mk (show Kd.R k84 84 w w0.heap.size (fun k_ => ((P0_1_ k_ ∨ P0_2_ k_) ∨ w.heap.size ≤ k_)) u9000_ l0_1 from Kd.R_mono ho0_1 (fun k_ hk => (.inl (.inl hk))))
 have HO0_2 := Aside0.mk (show Kd.R (Kd.int .i64) 3 w w0.heap.size (fun k_ => ((P0_1_ k_ ∨ P0_2_ k_) ∨ w.heap.size ≤ k_)) u9001_ l0_2 from Kd.R_mono ho0_2 (fun k_ hk => (.inl (.inr hk))))
 have HR0_3 := Aside0.mk hr0_3
 have HC0_3 := Aside0.mk hc0_3
 clear hr0_3 hc0_3
 have HK := Aside0.mk (Kept.refl w (fun k_ => P0_1_ k_ ∨ P0_2_ k_))
 have HW0 := Aside0.mk hB.size
 have HB := Aside0.mk hB
 clear hB
 have H : ((laws_markEdgeS.f k l0_1 a1).bind fun bt802 => ((laws_markIntS.f k l0_2 bt802.1).bind fun bt804 => ((laws_markPlaceS.f k l0_3 bt804.1).bind fun t806 => (some (t806, bt802.2, bt804.2))))) = some (r1, r2, r3) := h
 clear h
 replace H := Option.bind_eq_some_iff.mp H
 obtain ⟨⟨t802, t803⟩, A30, H⟩ := H
 replace H : ((laws_markIntS.f k l0_2 t802).bind fun bt804 => ((laws_markPlaceS.f k l0_3 bt804.1).bind fun t806 => (some (t806, t803, bt804.2)))) = some (r1, r2, r3) := H
 have A3 := Aside0.mk A30
 clear A30
 replace H := Option.bind_eq_some_iff.mp H
 obtain ⟨⟨t804, t805⟩, A40, H⟩ := H
 replace H : ((laws_markPlaceS.f k l0_3 t804).bind fun t806 => (some (t806, t803, t805))) = some (r1, r2, r3) := H
 have A4 := Aside0.mk A40
 clear A40
 replace H := Option.bind_eq_some_iff.mp H
 obtain ⟨t806, A50, H⟩ := H
 replace H : (some (t806, t803, t805)) = some (r1, r2, r3) := H
 have A5 := Aside0.mk A50
 clear A50
 simp only [Option.some.injEq, Prod.mk.injEq] at H
 obtain ⟨rfl, rfl, rfl⟩ := H
 obtain ⟨Ao6, co6, eo6⟩ := Kd.R_slice HO0_1.out
 subst eo6
 obtain ⟨Ao7, co7, eo7⟩ := Kd.R_slice HO0_2.out
 subst eo7
 go_enter Try.func48, Try.ntmps48
 go_wp2_with (first | ((with_reducible refine gate_dst (N := 2) rfl ?_); refine box_event ?hg (N := 2) ?hd (cs := #[.int .i64 a0_0, .slice Ao6 l0_1.length co6, .slice Ao7 l0_2.length co7, .slice A0_3 l0_3.length c0_3]) (t := 61) ?hr ?_; (case hd => rfl); (case hg => rfl); (case hr => first | (go_simp; done) | (go_simp; rfl)); intro gb801 hg w8 hbox hb; have BK801 := Aside0.mk (hbox); have GW801 := Aside0.mk ((by rw [hg]; exact (by first | exact HK.out.1 | exact (show Kept w _ (fun k_ => P0_1_ k_ ∨ P0_2_ k_) from by repeat (first | (with_reducible first | exact HK.out | apply Kept.alloc | apply Kept.drewN | apply Kept.drew) | exact HK.out)).1) : w.heap.size ≤ gb801)); have GE801 := gw_ hg HB; replace HO0_1 := rb_ HO0_1 hb; replace HO0_2 := rb_ HO0_2 hb; replace HK := Aside0.mk (Kept.below (S := (fun k_ => P0_1_ k_ ∨ P0_2_ k_)) (by repeat (first | (with_reducible first | exact HK.out | apply Kept.alloc | apply Kept.drewN | apply Kept.drew) | exact HK.out)) hb); replace HB := bst_ HB hb; clear hb hbox hg; have hcz9_0 : w8.cell? ⟨gb801, 0, none⟩ = some (.int .i64 a0_0) := bc_ BK801 0; have hcz9_1 : w8.cell? ⟨gb801, 1, none⟩ = some (.slice Ao6 l0_1.length co6) := bc_ BK801 1; have hcz9_2 : w8.cell? ⟨gb801, 2, none⟩ = some (.slice Ao7 l0_2.length co7) := bc_ BK801 2; have hcz9_3 : w8.cell? ⟨gb801, 3, none⟩ = some (.slice A0_3 l0_3.length c0_3) := bc_ BK801 3; have hfz9_0 := blk_frozen BK801.out 0; have hfz9_1 := blk_frozen BK801.out 1; have hfz9_2 := blk_frozen BK801.out 2; have hfz9_3 := blk_frozen BK801.out 3) | ((with_reducible refine gate_callee (f := 22) rfl ?_); refine goesL_ (some 8) rfl rfl Try.func22 (by kernel_rfl) rfl #[.slice Ao6 l0_1.length co6, .int .i64 a1] rfl tm_ ?_; (with_reducible refine (laws_markEdgeS.calls k (fun k_ => some k_ = (.slice Ao6 l0_1.length co6 : Value).ownBlock) (.slice Ao6 l0_1.length co6) l0_1 a1 t802 t803 w0 _ ?side1 ?side2 A3.out).mono ?_); (case side1 => repeat (first | (with_reducible first | exact HB.out | apply below_alloc | apply pw_below_drewN | apply below_drew1 | refine below_set ?_ GE801.out) | exact HB.out)); (case side2 => exact Kd.R_tight rfl HO0_1.out); rintro e w10 ⟨rfl, hy0, hb, hkp⟩; refine ⟨_, rfl, ?_⟩; replace HO0_2 := Aside0.mk (Kd.R_mono (ok' := fun k_ => ((P0_1_ k_ ∨ P0_2_ k_) ∨ w.heap.size ≤ k_)) (Kd.R_keptB ((Kd.R_apart' HO0_2.out (Kd.R_typed HO0_1.out) (by decide))) hkp (fun k_ hk_ hs_ => (hk_.2) hs_)) (fun k_ hk_ => hk_.1.1)); replace BK801 := Aside0.mk (blk_kept (ba BK801.out) hkp (fun hs_ => (fun e_ => (Kd.R_ne HO0_1.out BK801.out (by decide)) e_) hs_)); replace HK := Aside0.mk (Kept.then_ (S := (fun k_ => P0_1_ k_ ∨ P0_2_ k_)) (by repeat (first | (with_reducible first | exact HK.out | apply Kept.alloc | apply Kept.drewN | apply Kept.drew | refine Kept.setCell ?_ (.inr GW801.out) _) | exact HK.out)) hkp (fun k_ hs_ => (fun e_ => (HO0_1.out.1 k_ e_.symm)) hs_)); replace HO0_1 := Aside0.mk (Kd.R_reok rfl hy0 (fun k_ e_ => HO0_1.out.1 k_ e_)); replace HB := Aside0.mk (hb); clear hb; have hcz11_0 : w10.cell? ⟨gb801, 0, none⟩ = some (.int .i64 a0_0) := bc_ BK801 0; have hcz11_1 : w10.cell? ⟨gb801, 1, none⟩ = some (.slice Ao6 l0_1.length co6) := bc_ BK801 1; have hcz11_2 : w10.cell? ⟨gb801, 2, none⟩ = some (.slice Ao7 l0_2.length co7) := bc_ BK801 2; have hcz11_3 : w10.cell? ⟨gb801, 3, none⟩ = some (.slice A0_3 l0_3.length c0_3) := bc_ BK801 3; have hfz11_0 := blk_frozen BK801.out 0; have hfz11_1 := blk_frozen BK801.out 1; have hfz11_2 := blk_frozen BK801.out 2; have hfz11_3 := blk_frozen BK801.out 3) | ((with_reducible refine gate_callee (f := 23) rfl ?_); refine goesL_ (some 12) rfl rfl Try.func23 (by kernel_rfl) rfl #[.slice Ao7 l0_2.length co7, .int .i64 t802] rfl tm_ ?_; (with_reducible refine (laws_markIntS.calls k (fun k_ => some k_ = (.slice Ao7 l0_2.length co7 : Value).ownBlock) (.slice Ao7 l0_2.length co7) l0_2 t802 t804 t805 w0 _ ?side1 ?side2 A4.out).mono ?_); (case side1 => repeat (first | (with_reducible first | exact HB.out | apply below_alloc | apply pw_below_drewN | apply below_drew1 | refine below_set ?_ GE801.out) | exact HB.out)); (case side2 => exact Kd.R_tight rfl HO0_2.out); rintro e w12 ⟨rfl, hy0, hb, hkp⟩; refine ⟨_, rfl, ?_⟩; replace HO0_1 := Aside0.mk (Kd.R_mono (ok' := fun k_ => ((P0_1_ k_ ∨ P0_2_ k_) ∨ w.heap.size ≤ k_)) (Kd.R_keptB ((Kd.R_apart' HO0_1.out (Kd.R_typed HO0_2.out) (by decide))) hkp (fun k_ hk_ hs_ => (hk_.2) hs_)) (fun k_ hk_ => hk_.1.1)); replace BK801 := Aside0.mk (blk_kept (ba BK801.out) hkp (fun hs_ => (fun e_ => (Kd.R_ne HO0_2.out BK801.out (by decide)) e_) hs_)); replace HK := Aside0.mk (Kept.then_ (S := (fun k_ => P0_1_ k_ ∨ P0_2_ k_)) (by repeat (first | (with_reducible first | exact HK.out | apply Kept.alloc | apply Kept.drewN | apply Kept.drew | refine Kept.setCell ?_ (.inr GW801.out) _) | exact HK.out)) hkp (fun k_ hs_ => (fun e_ => (HO0_2.out.1 k_ e_.symm)) hs_)); replace HO0_2 := Aside0.mk (Kd.R_reok rfl hy0 (fun k_ e_ => HO0_2.out.1 k_ e_)); replace HB := Aside0.mk (hb); clear hb; have hcz13_0 : w12.cell? ⟨gb801, 0, none⟩ = some (.int .i64 a0_0) := bc_ BK801 0; have hcz13_1 : w12.cell? ⟨gb801, 1, none⟩ = some (.slice Ao6 l0_1.length co6) := bc_ BK801 1; have hcz13_2 : w12.cell? ⟨gb801, 2, none⟩ = some (.slice Ao7 l0_2.length co7) := bc_ BK801 2; have hcz13_3 : w12.cell? ⟨gb801, 3, none⟩ = some (.slice A0_3 l0_3.length c0_3) := bc_ BK801 3; have hfz13_0 := blk_frozen BK801.out 0; have hfz13_1 := blk_frozen BK801.out 1; have hfz13_2 := blk_frozen BK801.out 2; have hfz13_3 := blk_frozen BK801.out 3) | ((with_reducible refine gate_callee (f := 94) rfl ?_); refine goesL_ (some 16) rfl rfl Try.func94 (by kernel_rfl) rfl #[.slice A0_3 l0_3.length c0_3, .int .i64 t804] rfl tm_ ?_; (with_reducible refine (laws_markPlaceS.calls k _ _ l0_3 t804 t806 _ ?side1 ?side2 A5.out).mono ?_); (case side1 => exact Kd.C_kept_now HR0_3.out (by repeat (first | (with_reducible first | exact HK.out | apply Kept.alloc | apply Kept.drewN | apply Kept.drew | refine Kept.setCell ?_ (.inr GW801.out) _) | exact HK.out))); (case side2 => exact HC0_3.out); rintro e w' ⟨rfl, ⟨nd, rfl⟩⟩; refine ⟨_, rfl, ?_⟩))
 go_ret
 exact ⟨by first | rfl | (simp [errW_none, errW_some] <;> rfl) | (simp [*, errW_none, errW_some] <;> rfl), by (with_reducible repeat (first | apply Kd.R_alloc | apply Kd.R_drewN | apply Kd.R_drew)); exact HO0_1.out, by (with_reducible repeat (first | apply Kd.R_alloc | apply Kd.R_drewN | apply Kd.R_drew)); exact HO0_2.out, by repeat (first | (with_reducible first | exact HB.out | apply below_alloc | apply pw_below_drewN | apply below_drew1 | refine below_set ?_ GE801.out) | exact HB.out), by repeat (first | (with_reducible first | exact HK.out | apply Kept.alloc | apply Kept.drewN | apply Kept.drew | refine Kept.setCell ?_ (.inr GW801.out) _) | exact HK.out)⟩

def laws_heldPlaceS.l0 : Nat → List (S118) → Int → Int → Option (Int)
 | 0, _, _, _ => none
 | k + 1, x0, x1, x5 => if x5 < (x0.length : Int) then (if 0 ≤ x5 then (if ((rd_T118 x0 x5).f0) = x1 then (if ((rd_T118 x0 x5).f1) = (wrap64 (x1 + 1)) then ((laws_heldIntS.f k ((rd_T118 x0 x5).f2) (wrap64 ((wrap64 (x1 + 1)) + 1))).bind fun t810 => (if t810 < 0 then (some (-1)) else (laws_heldPlaceS.l0 k x0 t810 (wrap64 (x5 + 1))))) else (some (-1))) else (some (-1))) else (none)) else (some x1)
def laws_heldPlaceS.f (k : Nat) (l0 : List (S118)) (a1 : Int) : Option (Int) := laws_heldPlaceS.l0 k l0 a1 0
theorem laws_heldPlaceS.mono_l : ∀ k, (∀ y0 y1 y2, LeO (laws_heldPlaceS.l0 k y0 y1 y2) (laws_heldPlaceS.l0 (k + 1) y0 y1 y2))
 | 0 => fun _ _ _ r h => by simp [laws_heldPlaceS.l0] at h
 | k + 1 => by
  have ih0 := laws_heldPlaceS.mono_l k
  ·intro y0 y1 y2
   unfold laws_heldPlaceS.l0
   repeat' first
   | (with_reducible exact ih0 _ _ _)
   | (with_reducible exact laws_heldIntS.mono _ _ _)
   | (with_reducible exact LeO.refl _)
   | (with_reducible exact LeO.none _)
   | (with_reducible refine LeO.ite ?_ ?_)
   | (with_reducible refine LeO.bind ?_ (fun _ => ?_))
   | exact ih0 _ _ _
   | exact laws_heldIntS.mono _ _ _
   | exact LeO.none _
   | refine LeO.ite ?_ ?_
   | refine LeO.bind ?_ (fun _ => ?_)
theorem laws_heldPlaceS.mono : ∀ a0 a1 k, LeO (laws_heldPlaceS.f k a0 a1) (laws_heldPlaceS.f (k + 1) a0 a1) := by
 intro a0 a1 k
 have ih0 := laws_heldPlaceS.mono_l k
 unfold laws_heldPlaceS.f
 repeat' first
   | (with_reducible exact ih0 _ _ _)
   | (with_reducible exact laws_heldIntS.mono _ _ _)
   | (with_reducible exact LeO.refl _)
   | (with_reducible exact LeO.none _)
   | (with_reducible refine LeO.ite ?_ ?_)
   | (with_reducible refine LeO.bind ?_ (fun _ => ?_))
   | exact ih0 _ _ _
   | exact laws_heldIntS.mono _ _ _
   | exact LeO.none _
   | refine LeO.ite ?_ ?_
   | refine LeO.bind ?_ (fun _ => ?_)
set_option maxHeartbeats 8000000 in
set_option maxRecDepth 100000 in
theorem laws_heldPlaceS.calls (k : Nat) (A0 : Option Addr) (c0 : Nat) (l0 : List (S118)) (a1 : Int) (r : Int) (w : World) (hr0 : Kd.C k118 w A0 l0.length l0) (hc0 : l0.length ≤ c0) (h : laws_heldPlaceS.f k l0 a1 = some r) :
  Calls Try.prog 95 #[.slice A0 l0.length c0, .int .i64 a1] w fun e w' => e = .returned (.int .i64 r) ∧ Drawn0 w w' := by
 have HR0 := Aside0.mk hr0
 have HC0 := Aside0.mk hc0
 clear hr0 hc0
 have H : (laws_heldPlaceS.l0 k l0 a1 0) = some r := h
 clear h
 have H' := Aside0.mk H
 clear H
 go_enter Try.func95, Try.ntmps95
 go_wp2
 go_loopg [1, 5] k (fun kq v1 v5 w' => ∃ (x1_1 : Int) (x5_1 : Int), v1 = .int .i64 x1_1 ∧ v5 = .int .i64 x5_1 ∧ Aside0 (laws_heldPlaceS.l0 kq l0 x1_1 x5_1 = some r) ∧ Aside0 (kq ≤ k) ∧ Drawn0 w w')
 case atStart => exact ⟨(a1), (0), (by first | rfl | (simp; done) | (simp [*]; done)), (by first | rfl | (simp; done) | (simp [*]; done)), H', ⟨Nat.le_refl _⟩, by repeat (first | exact Drawn0.refl _ | apply Drawn0.step)⟩
 case round =>
  clear H'
  try clear p2
  obtain ⟨x1_1, x5_1, rfl, rfl, HA, HK1, ⟨m1, rfl⟩⟩ := hrel
  cases gk with
  | zero => exact absurd HA.out (by simp [laws_heldPlaceS.l0])
  | succ k1 =>
   have H := HA.out
   clear HA
   simp only [laws_heldPlaceS.l0] at H
   by_cases c3 : x5_1 < (l0.length : Int)
   rotate_left
   ·rw [if_neg c3] at H
    have c3b0 : decide (x5_1 < (l0.length : Int)) = false := decide_eq_false c3
    clear c3
    obtain rfl := Option.some.inj H
    go_wp2
    go_ret
    exact ⟨by first | rfl | (simp; done) | (simp [*]; done), by repeat (first | exact Drawn0.refl _ | apply Drawn0.step)⟩
   rw [if_pos c3] at H
   have c3b0 : decide (x5_1 < (l0.length : Int)) = true := decide_eq_true c3
   clear c3
   by_cases c4 : 0 ≤ x5_1
   rotate_left
   ·rw [if_neg c4] at H
    exact absurd H (by simp)
   rw [if_pos c4] at H
   have c4b0 : decide (0 ≤ x5_1) = true := decide_eq_true c4
   clear c4
   by_cases c5 : ((rd_T118 l0 x5_1).f0) = x1_1
   rotate_left
   ·rw [if_neg c5] at H
    have c5b0 : (((rd_T118 l0 x5_1).f0) == x1_1) = false := beq_eq_false_iff_ne.mpr c5
    have c5b1 : (((rd_T118 l0 x5_1).f0) != x1_1) = true := bne_iff_ne.mpr c5
    obtain rfl := Option.some.inj H
    have p807 : 0 ≤ (x5_1 : Int) := of_decide_eq_true (by first | (with_reducible assumption) | assumption)
    have q807 : x5_1 < (l0.length : Int) := of_decide_eq_true (by first | (with_reducible assumption) | assumption)
    obtain ⟨ad807, A807_2, c807_2, e807, hx807_0, hx807_1, hx807_2, hl807_2, hi807_2⟩ := at_T118 HR0.out x5_1 p807 q807
    cases e807
    have HR807_2 := Aside0.mk hi807_2
    have HC807_2 := Aside0.mk hl807_2
    clear hi807_2 hl807_2
    replace p807 := eq_true p807
    replace q807 := eq_true q807
    go_wp2
    go_ret
    exact ⟨by first | rfl | (simp; done) | (simp [*]; done), by repeat (first | exact Drawn0.refl _ | apply Drawn0.step)⟩
   rw [if_pos c5] at H
   have c5b0 : (((rd_T118 l0 x5_1).f0) == x1_1) = true := beq_iff_eq.mpr c5
   have c5b1 : (((rd_T118 l0 x5_1).f0) != x1_1) = false := bne_eq_false_iff_eq.mpr c5
   clear c5
   by_cases c6 : ((rd_T118 l0 x5_1).f1) = (wrap64 (x1_1 + 1))
   rotate_left
   ·rw [if_neg c6] at H
    have c6b0 : (((rd_T118 l0 x5_1).f1) == (wrap64 (x1_1 + 1))) = false := beq_eq_false_iff_ne.mpr c6
    have c6b1 : (((rd_T118 l0 x5_1).f1) != (wrap64 (x1_1 + 1))) = true := bne_iff_ne.mpr c6
    obtain rfl := Option.some.inj H
    have p807 : 0 ≤ (x5_1 : Int) := of_decide_eq_true (by first | (with_reducible assumption) | assumption)
    have q807 : x5_1 < (l0.length : Int) := of_decide_eq_true (by first | (with_reducible assumption) | assumption)
    obtain ⟨ad807, A807_2, c807_2, e807, hx807_0, hx807_1, hx807_2, hl807_2, hi807_2⟩ := at_T118 HR0.out x5_1 p807 q807
    cases e807
    have HR807_2 := Aside0.mk hi807_2
    have HC807_2 := Aside0.mk hl807_2
    clear hi807_2 hl807_2
    replace p807 := eq_true p807
    replace q807 := eq_true q807
    have p808 : 0 ≤ (x5_1 : Int) := of_decide_eq_true (by first | (with_reducible assumption) | assumption)
    have q808 : x5_1 < (l0.length : Int) := of_decide_eq_true (by first | (with_reducible assumption) | assumption)
    obtain ⟨ad808, A808_2, c808_2, e808, hx808_0, hx808_1, hx808_2, hl808_2, hi808_2⟩ := at_T118 HR0.out x5_1 p808 q808
    obtain rfl : ad807 = ad808 := (by injection e808)
    have HR808_2 := Aside0.mk hi808_2
    have HC808_2 := Aside0.mk hl808_2
    clear hi808_2 hl808_2
    replace p808 := eq_true p808
    replace q808 := eq_true q808
    have ea_ := Option.some.inj (hx807_2.symm.trans hx808_2)
    injection ea_ with ea_ en_ ec_
    subst ea_
    subst ec_
    clear en_
    go_wp2
    go_ret
    exact ⟨by first | rfl | (simp; done) | (simp [*]; done), by repeat (first | exact Drawn0.refl _ | apply Drawn0.step)⟩
   rw [if_pos c6] at H
   have c6b0 : (((rd_T118 l0 x5_1).f1) == (wrap64 (x1_1 + 1))) = true := beq_iff_eq.mpr c6
   have c6b1 : (((rd_T118 l0 x5_1).f1) != (wrap64 (x1_1 + 1))) = false := bne_eq_false_iff_eq.mpr c6
   clear c6
   replace H := Option.bind_eq_some_iff.mp H
   obtain ⟨t810, A70, H⟩ := H
   replace H : (if t810 < 0 then (some (-1)) else (laws_heldPlaceS.l0 k1 l0 t810 (wrap64 (x5_1 + 1)))) = some r := H
   have A7 := Aside0.mk A70
   clear A70
   by_cases c8 : t810 < 0
   ·rw [if_pos c8] at H
    have c8b0 : decide (t810 < 0) = true := decide_eq_true c8
    clear c8
    obtain rfl := Option.some.inj H
    have p807 : 0 ≤ (x5_1 : Int) := of_decide_eq_true (by first | (with_reducible assumption) | assumption)
    have q807 : x5_1 < (l0.length : Int) := of_decide_eq_true (by first | (with_reducible assumption) | assumption)
    obtain ⟨ad807, A807_2, c807_2, e807, hx807_0, hx807_1, hx807_2, hl807_2, hi807_2⟩ := at_T118 HR0.out x5_1 p807 q807
    cases e807
    have HR807_2 := Aside0.mk hi807_2
    have HC807_2 := Aside0.mk hl807_2
    clear hi807_2 hl807_2
    replace p807 := eq_true p807
    replace q807 := eq_true q807
    have p808 : 0 ≤ (x5_1 : Int) := of_decide_eq_true (by first | (with_reducible assumption) | assumption)
    have q808 : x5_1 < (l0.length : Int) := of_decide_eq_true (by first | (with_reducible assumption) | assumption)
    obtain ⟨ad808, A808_2, c808_2, e808, hx808_0, hx808_1, hx808_2, hl808_2, hi808_2⟩ := at_T118 HR0.out x5_1 p808 q808
    obtain rfl : ad807 = ad808 := (by injection e808)
    have HR808_2 := Aside0.mk hi808_2
    have HC808_2 := Aside0.mk hl808_2
    clear hi808_2 hl808_2
    replace p808 := eq_true p808
    replace q808 := eq_true q808
    have ea_ := Option.some.inj (hx807_2.symm.trans hx808_2)
    injection ea_ with ea_ en_ ec_
    subst ea_
    subst ec_
    clear en_
    have p809 : 0 ≤ (x5_1 : Int) := of_decide_eq_true (by first | (with_reducible assumption) | assumption)
    have q809 : x5_1 < (l0.length : Int) := of_decide_eq_true (by first | (with_reducible assumption) | assumption)
    obtain ⟨ad809, A809_2, c809_2, e809, hx809_0, hx809_1, hx809_2, hl809_2, hi809_2⟩ := at_T118 HR0.out x5_1 p809 q809
    obtain rfl : ad807 = ad809 := (by injection e809)
    have HR809_2 := Aside0.mk hi809_2
    have HC809_2 := Aside0.mk hl809_2
    clear hi809_2 hl809_2
    replace p809 := eq_true p809
    replace q809 := eq_true q809
    have ea_ := Option.some.inj (hx807_2.symm.trans hx809_2)
    injection ea_ with ea_ en_ ec_
    subst ea_
    subst ec_
    clear en_
    go_wp2_with (first | ((with_reducible refine gate_callee (f := 27) rfl ?_); refine goesL_ (some 36) rfl rfl Try.func27 (by kernel_rfl) rfl #[.slice A807_2 ((rd_T118 l0 x5_1).f2).length c807_2, .int .i64 (wrap64 ((wrap64 (x1_1 + 1)) + 1))] rfl tm_ ?_; (with_reducible refine (laws_heldIntS.calls k1 _ _ ((rd_T118 l0 x5_1).f2) (wrap64 ((wrap64 (x1_1 + 1)) + 1)) t810 _ ?side1 ?side2 A7.out).mono ?_); (case side1 => exact ca HR809_2.out); (case side2 => exact HC809_2.out); rintro e w' ⟨rfl, ⟨nd, rfl⟩⟩; refine ⟨_, rfl, ?_⟩))
    go_ret
    exact ⟨by first | rfl | (simp; done) | (simp [*]; done), by repeat (first | exact Drawn0.refl _ | apply Drawn0.step)⟩
   rw [if_neg c8] at H
   have c8b0 : decide (t810 < 0) = false := decide_eq_false c8
   clear c8
   have H' := Aside0.mk H
   clear H
   have p807 : 0 ≤ (x5_1 : Int) := of_decide_eq_true (by first | (with_reducible assumption) | assumption)
   have q807 : x5_1 < (l0.length : Int) := of_decide_eq_true (by first | (with_reducible assumption) | assumption)
   obtain ⟨ad807, A807_2, c807_2, e807, hx807_0, hx807_1, hx807_2, hl807_2, hi807_2⟩ := at_T118 HR0.out x5_1 p807 q807
   cases e807
   have HR807_2 := Aside0.mk hi807_2
   have HC807_2 := Aside0.mk hl807_2
   clear hi807_2 hl807_2
   replace p807 := eq_true p807
   replace q807 := eq_true q807
   have p808 : 0 ≤ (x5_1 : Int) := of_decide_eq_true (by first | (with_reducible assumption) | assumption)
   have q808 : x5_1 < (l0.length : Int) := of_decide_eq_true (by first | (with_reducible assumption) | assumption)
   obtain ⟨ad808, A808_2, c808_2, e808, hx808_0, hx808_1, hx808_2, hl808_2, hi808_2⟩ := at_T118 HR0.out x5_1 p808 q808
   obtain rfl : ad807 = ad808 := (by injection e808)
   have HR808_2 := Aside0.mk hi808_2
   have HC808_2 := Aside0.mk hl808_2
   clear hi808_2 hl808_2
   replace p808 := eq_true p808
   replace q808 := eq_true q808
   have ea_ := Option.some.inj (hx807_2.symm.trans hx808_2)
   injection ea_ with ea_ en_ ec_
   subst ea_
   subst ec_
   clear en_
   have p809 : 0 ≤ (x5_1 : Int) := of_decide_eq_true (by first | (with_reducible assumption) | assumption)
   have q809 : x5_1 < (l0.length : Int) := of_decide_eq_true (by first | (with_reducible assumption) | assumption)
   obtain ⟨ad809, A809_2, c809_2, e809, hx809_0, hx809_1, hx809_2, hl809_2, hi809_2⟩ := at_T118 HR0.out x5_1 p809 q809
   obtain rfl : ad807 = ad809 := (by injection e809)
   have HR809_2 := Aside0.mk hi809_2
   have HC809_2 := Aside0.mk hl809_2
   clear hi809_2 hl809_2
   replace p809 := eq_true p809
   replace q809 := eq_true q809
   have ea_ := Option.some.inj (hx807_2.symm.trans hx809_2)
   injection ea_ with ea_ en_ ec_
   subst ea_
   subst ec_
   clear en_
   go_wp2_with (first | ((with_reducible refine gate_callee (f := 27) rfl ?_); refine goesL_ (some 36) rfl rfl Try.func27 (by kernel_rfl) rfl #[.slice A807_2 ((rd_T118 l0 x5_1).f2).length c807_2, .int .i64 (wrap64 ((wrap64 (x1_1 + 1)) + 1))] rfl tm_ ?_; (with_reducible refine (laws_heldIntS.calls k1 _ _ ((rd_T118 l0 x5_1).f2) (wrap64 ((wrap64 (x1_1 + 1)) + 1)) t810 _ ?side1 ?side2 A7.out).mono ?_); (case side1 => exact ca HR809_2.out); (case side2 => exact HC809_2.out); rintro e w' ⟨rfl, ⟨nd, rfl⟩⟩; refine ⟨_, rfl, ?_⟩))
   go_roundg k1
   case measure => have := HK1.out; omega
   case rel => exact ⟨(t810), (wrap64 (x5_1 + 1)), (by first | rfl | (simp; done) | (simp [*]; done)), (by first | rfl | (simp; done) | (simp [*]; done)), H', ⟨by have := HK1.out; omega⟩, by repeat (first | exact Drawn0.refl _ | apply Drawn0.step)⟩

def laws_heldCampus.f (k : Nat) (a0_0 : Int) (l0_1 : List (S84)) (l0_2 : List Int) (l0_3 : List (S118)) (a1 : Int) : Option (Int) := (laws_heldEdgeS.f k l0_1 a1).bind fun t812 => (if t812 < 0 then (some (-1)) else ((laws_heldIntS.f k l0_2 t812).bind fun t813 => (if t813 < 0 then (some (-1)) else ((laws_heldPlaceS.f k l0_3 t813).bind fun t814 => (if t814 < 0 then (some (-1)) else (some t814))))))
theorem laws_heldCampus.mono : ∀ a0 a1 a2 a3 a4 k, LeO (laws_heldCampus.f k a0 a1 a2 a3 a4) (laws_heldCampus.f (k + 1) a0 a1 a2 a3 a4) := by
 intro a0 a1 a2 a3 a4 k
 unfold laws_heldCampus.f
 repeat' first
   | (with_reducible exact laws_heldEdgeS.mono _ _ _)
   | (with_reducible exact laws_heldIntS.mono _ _ _)
   | (with_reducible exact laws_heldPlaceS.mono _ _ _)
   | (with_reducible exact LeO.refl _)
   | (with_reducible exact LeO.none _)
   | (with_reducible refine LeO.ite ?_ ?_)
   | (with_reducible refine LeO.bind ?_ (fun _ => ?_))
   | exact laws_heldEdgeS.mono _ _ _
   | exact laws_heldIntS.mono _ _ _
   | exact laws_heldPlaceS.mono _ _ _
   | exact LeO.none _
   | refine LeO.ite ?_ ?_
   | refine LeO.bind ?_ (fun _ => ?_)
set_option maxHeartbeats 8000000 in
set_option maxRecDepth 100000 in
theorem laws_heldCampus.calls (k : Nat) (a0_0 : Int) (A0_1 : Option Addr) (c0_1 : Nat) (l0_1 : List (S84)) (A0_2 : Option Addr) (c0_2 : Nat) (l0_2 : List Int) (A0_3 : Option Addr) (c0_3 : Nat) (l0_3 : List (S118)) (a1 : Int) (r : Int) (w : World) (hr0_1 : Kd.C k84 w A0_1 l0_1.length l0_1) (hc0_1 : l0_1.length ≤ c0_1) (hr0_2 : Kd.C (Kd.int .i64) w A0_2 l0_2.length l0_2) (hc0_2 : l0_2.length ≤ c0_2) (hr0_3 : Kd.C k118 w A0_3 l0_3.length l0_3) (hc0_3 : l0_3.length ≤ c0_3) (h : laws_heldCampus.f k a0_0 l0_1 l0_2 l0_3 a1 = some r) :
  Calls Try.prog 49 #[.agg #[.int .i64 a0_0, .slice A0_1 l0_1.length c0_1, .slice A0_2 l0_2.length c0_2, .slice A0_3 l0_3.length c0_3], .int .i64 a1] w fun e w' => e = .returned (.int .i64 r) ∧ Below w.heap.size w w' := by
 have hu61 := Try.underlying61
 have HR0_1 := Aside0.mk hr0_1
 have HC0_1 := Aside0.mk hc0_1
 clear hr0_1 hc0_1
 have HR0_2 := Aside0.mk hr0_2
 have HC0_2 := Aside0.mk hc0_2
 clear hr0_2 hc0_2
 have HR0_3 := Aside0.mk hr0_3
 have HC0_3 := Aside0.mk hc0_3
 clear hr0_3 hc0_3
 have HB := Aside0.mk (Below.refl w.heap.size w)
 have H : ((laws_heldEdgeS.f k l0_1 a1).bind fun t812 => (if t812 < 0 then (some (-1)) else ((laws_heldIntS.f k l0_2 t812).bind fun t813 => (if t813 < 0 then (some (-1)) else ((laws_heldPlaceS.f k l0_3 t813).bind fun t814 => (if t814 < 0 then (some (-1)) else (some t814))))))) = some r := h
 clear h
 replace H := Option.bind_eq_some_iff.mp H
 obtain ⟨t812, A30, H⟩ := H
 replace H : (if t812 < 0 then (some (-1)) else ((laws_heldIntS.f k l0_2 t812).bind fun t813 => (if t813 < 0 then (some (-1)) else ((laws_heldPlaceS.f k l0_3 t813).bind fun t814 => (if t814 < 0 then (some (-1)) else (some t814)))))) = some r := H
 have A3 := Aside0.mk A30
 clear A30
 by_cases c4 : t812 < 0
 ·rw [if_pos c4] at H
  have c4b0 : decide (t812 < 0) = true := decide_eq_true c4
  clear c4
  obtain rfl := Option.some.inj H
  go_enter Try.func49, Try.ntmps49
  go_wp2_with (first | ((with_reducible refine gate_dst (N := 2) rfl ?_); refine box_event ?hg (N := 2) ?hd (cs := #[.int .i64 a0_0, .slice A0_1 l0_1.length c0_1, .slice A0_2 l0_2.length c0_2, .slice A0_3 l0_3.length c0_3]) (t := 61) ?hr ?_; (case hd => rfl); (case hg => rfl); (case hr => first | (go_simp; done) | (go_simp; rfl)); intro gb811 hg w5 hbox hb; have BK811 := Aside0.mk (hbox); have GW811 := gw_ hg HB; have GE811 := gw_ hg HB; replace HB := bst_ HB hb; clear hb hbox hg; have hcz6_0 : w5.cell? ⟨gb811, 0, none⟩ = some (.int .i64 a0_0) := bc_ BK811 0; have hcz6_1 : w5.cell? ⟨gb811, 1, none⟩ = some (.slice A0_1 l0_1.length c0_1) := bc_ BK811 1; have hcz6_2 : w5.cell? ⟨gb811, 2, none⟩ = some (.slice A0_2 l0_2.length c0_2) := bc_ BK811 2; have hcz6_3 : w5.cell? ⟨gb811, 3, none⟩ = some (.slice A0_3 l0_3.length c0_3) := bc_ BK811 3; have hfz6_0 := blk_frozen BK811.out 0; have hfz6_1 := blk_frozen BK811.out 1; have hfz6_2 := blk_frozen BK811.out 2; have hfz6_3 := blk_frozen BK811.out 3) | ((with_reducible refine gate_callee (f := 24) rfl ?_); refine goesL_ (some 8) rfl rfl Try.func24 (by kernel_rfl) rfl #[.slice A0_1 l0_1.length c0_1, .int .i64 a1] rfl tm_ ?_; (with_reducible refine (laws_heldEdgeS.calls k _ _ l0_1 a1 t812 _ ?side1 ?side2 A3.out).mono ?_); (case side1 => exact ca (Kd.C_below HR0_1.out HB.out)); (case side2 => exact HC0_1.out); rintro e w' ⟨rfl, ⟨nd, rfl⟩⟩; refine ⟨_, rfl, ?_⟩))
  go_ret
  exact ⟨by first | rfl | (simp [errW_none, errW_some] <;> rfl) | (simp [*, errW_none, errW_some] <;> rfl), by repeat (first | (with_reducible first | exact HB.out | apply below_alloc | apply pw_below_drewN | apply below_drew1 | refine below_set ?_ GE811.out) | exact HB.out)⟩
 rw [if_neg c4] at H
 have c4b0 : decide (t812 < 0) = false := decide_eq_false c4
 clear c4
 replace H := Option.bind_eq_some_iff.mp H
 obtain ⟨t813, A70, H⟩ := H
 replace H : (if t813 < 0 then (some (-1)) else ((laws_heldPlaceS.f k l0_3 t813).bind fun t814 => (if t814 < 0 then (some (-1)) else (some t814)))) = some r := H
 have A7 := Aside0.mk A70
 clear A70
 by_cases c8 : t813 < 0
 ·rw [if_pos c8] at H
  have c8b0 : decide (t813 < 0) = true := decide_eq_true c8
  clear c8
  obtain rfl := Option.some.inj H
  go_enter Try.func49, Try.ntmps49
  go_wp2_with (first | ((with_reducible refine gate_dst (N := 2) rfl ?_); refine box_event ?hg (N := 2) ?hd (cs := #[.int .i64 a0_0, .slice A0_1 l0_1.length c0_1, .slice A0_2 l0_2.length c0_2, .slice A0_3 l0_3.length c0_3]) (t := 61) ?hr ?_; (case hd => rfl); (case hg => rfl); (case hr => first | (go_simp; done) | (go_simp; rfl)); intro gb811 hg w9 hbox hb; have BK811 := Aside0.mk (hbox); have GW811 := gw_ hg HB; have GE811 := gw_ hg HB; replace HB := bst_ HB hb; clear hb hbox hg; have hcz10_0 : w9.cell? ⟨gb811, 0, none⟩ = some (.int .i64 a0_0) := bc_ BK811 0; have hcz10_1 : w9.cell? ⟨gb811, 1, none⟩ = some (.slice A0_1 l0_1.length c0_1) := bc_ BK811 1; have hcz10_2 : w9.cell? ⟨gb811, 2, none⟩ = some (.slice A0_2 l0_2.length c0_2) := bc_ BK811 2; have hcz10_3 : w9.cell? ⟨gb811, 3, none⟩ = some (.slice A0_3 l0_3.length c0_3) := bc_ BK811 3; have hfz10_0 := blk_frozen BK811.out 0; have hfz10_1 := blk_frozen BK811.out 1; have hfz10_2 := blk_frozen BK811.out 2; have hfz10_3 := blk_frozen BK811.out 3) | ((with_reducible refine gate_callee (f := 24) rfl ?_); refine goesL_ (some 8) rfl rfl Try.func24 (by kernel_rfl) rfl #[.slice A0_1 l0_1.length c0_1, .int .i64 a1] rfl tm_ ?_; (with_reducible refine (laws_heldEdgeS.calls k _ _ l0_1 a1 t812 _ ?side1 ?side2 A3.out).mono ?_); (case side1 => exact ca (Kd.C_below HR0_1.out HB.out)); (case side2 => exact HC0_1.out); rintro e w' ⟨rfl, ⟨nd, rfl⟩⟩; refine ⟨_, rfl, ?_⟩) | ((with_reducible refine gate_callee (f := 27) rfl ?_); refine goesL_ (some 14) rfl rfl Try.func27 (by kernel_rfl) rfl #[.slice A0_2 l0_2.length c0_2, .int .i64 t812] rfl tm_ ?_; (with_reducible refine (laws_heldIntS.calls k _ _ l0_2 t812 t813 _ ?side1 ?side2 A7.out).mono ?_); (case side1 => exact ca (Kd.C_below HR0_2.out (hB HB))); (case side2 => exact HC0_2.out); rintro e w' ⟨rfl, ⟨nd, rfl⟩⟩; refine ⟨_, rfl, ?_⟩))
  go_ret
  exact ⟨by first | rfl | (simp [errW_none, errW_some] <;> rfl) | (simp [*, errW_none, errW_some] <;> rfl), by repeat (first | (with_reducible first | exact HB.out | apply below_alloc | apply pw_below_drewN | apply below_drew1 | refine below_set ?_ GE811.out) | exact HB.out)⟩
 rw [if_neg c8] at H
 have c8b0 : decide (t813 < 0) = false := decide_eq_false c8
 clear c8
 replace H := Option.bind_eq_some_iff.mp H
 obtain ⟨t814, A110, H⟩ := H
 replace H : (if t814 < 0 then (some (-1)) else (some t814)) = some r := H
 have A11 := Aside0.mk A110
 clear A110
 by_cases c12 : t814 < 0
 ·rw [if_pos c12] at H
  have c12b0 : decide (t814 < 0) = true := decide_eq_true c12
  clear c12
  obtain rfl := Option.some.inj H
  go_enter Try.func49, Try.ntmps49
  go_wp2_with (first | ((with_reducible refine gate_dst (N := 2) rfl ?_); refine box_event ?hg (N := 2) ?hd (cs := #[.int .i64 a0_0, .slice A0_1 l0_1.length c0_1, .slice A0_2 l0_2.length c0_2, .slice A0_3 l0_3.length c0_3]) (t := 61) ?hr ?_; (case hd => rfl); (case hg => rfl); (case hr => first | (go_simp; done) | (go_simp; rfl)); intro gb811 hg w13 hbox hb; have BK811 := Aside0.mk (hbox); have GW811 := gw_ hg HB; have GE811 := gw_ hg HB; replace HB := bst_ HB hb; clear hb hbox hg; have hcz14_0 : w13.cell? ⟨gb811, 0, none⟩ = some (.int .i64 a0_0) := bc_ BK811 0; have hcz14_1 : w13.cell? ⟨gb811, 1, none⟩ = some (.slice A0_1 l0_1.length c0_1) := bc_ BK811 1; have hcz14_2 : w13.cell? ⟨gb811, 2, none⟩ = some (.slice A0_2 l0_2.length c0_2) := bc_ BK811 2; have hcz14_3 : w13.cell? ⟨gb811, 3, none⟩ = some (.slice A0_3 l0_3.length c0_3) := bc_ BK811 3; have hfz14_0 := blk_frozen BK811.out 0; have hfz14_1 := blk_frozen BK811.out 1; have hfz14_2 := blk_frozen BK811.out 2; have hfz14_3 := blk_frozen BK811.out 3) | ((with_reducible refine gate_callee (f := 24) rfl ?_); refine goesL_ (some 8) rfl rfl Try.func24 (by kernel_rfl) rfl #[.slice A0_1 l0_1.length c0_1, .int .i64 a1] rfl tm_ ?_; (with_reducible refine (laws_heldEdgeS.calls k _ _ l0_1 a1 t812 _ ?side1 ?side2 A3.out).mono ?_); (case side1 => exact ca (Kd.C_below HR0_1.out HB.out)); (case side2 => exact HC0_1.out); rintro e w' ⟨rfl, ⟨nd, rfl⟩⟩; refine ⟨_, rfl, ?_⟩) | ((with_reducible refine gate_callee (f := 27) rfl ?_); refine goesL_ (some 14) rfl rfl Try.func27 (by kernel_rfl) rfl #[.slice A0_2 l0_2.length c0_2, .int .i64 t812] rfl tm_ ?_; (with_reducible refine (laws_heldIntS.calls k _ _ l0_2 t812 t813 _ ?side1 ?side2 A7.out).mono ?_); (case side1 => exact ca (Kd.C_below HR0_2.out (hB HB))); (case side2 => exact HC0_2.out); rintro e w' ⟨rfl, ⟨nd, rfl⟩⟩; refine ⟨_, rfl, ?_⟩) | ((with_reducible refine gate_callee (f := 95) rfl ?_); refine goesL_ (some 20) rfl rfl Try.func95 (by kernel_rfl) rfl #[.slice A0_3 l0_3.length c0_3, .int .i64 t813] rfl tm_ ?_; (with_reducible refine (laws_heldPlaceS.calls k _ _ l0_3 t813 t814 _ ?side1 ?side2 A11.out).mono ?_); (case side1 => exact ca (Kd.C_below HR0_3.out (hB HB))); (case side2 => exact HC0_3.out); rintro e w' ⟨rfl, ⟨nd, rfl⟩⟩; refine ⟨_, rfl, ?_⟩))
  go_ret
  exact ⟨by first | rfl | (simp [errW_none, errW_some] <;> rfl) | (simp [*, errW_none, errW_some] <;> rfl), by repeat (first | (with_reducible first | exact HB.out | apply below_alloc | apply pw_below_drewN | apply below_drew1 | refine below_set ?_ GE811.out) | exact HB.out)⟩
 rw [if_neg c12] at H
 have c12b0 : decide (t814 < 0) = false := decide_eq_false c12
 clear c12
 obtain rfl := Option.some.inj H
 go_enter Try.func49, Try.ntmps49
 go_wp2_with (first | ((with_reducible refine gate_dst (N := 2) rfl ?_); refine box_event ?hg (N := 2) ?hd (cs := #[.int .i64 a0_0, .slice A0_1 l0_1.length c0_1, .slice A0_2 l0_2.length c0_2, .slice A0_3 l0_3.length c0_3]) (t := 61) ?hr ?_; (case hd => rfl); (case hg => rfl); (case hr => first | (go_simp; done) | (go_simp; rfl)); intro gb811 hg w15 hbox hb; have BK811 := Aside0.mk (hbox); have GW811 := gw_ hg HB; have GE811 := gw_ hg HB; replace HB := bst_ HB hb; clear hb hbox hg; have hcz16_0 : w15.cell? ⟨gb811, 0, none⟩ = some (.int .i64 a0_0) := bc_ BK811 0; have hcz16_1 : w15.cell? ⟨gb811, 1, none⟩ = some (.slice A0_1 l0_1.length c0_1) := bc_ BK811 1; have hcz16_2 : w15.cell? ⟨gb811, 2, none⟩ = some (.slice A0_2 l0_2.length c0_2) := bc_ BK811 2; have hcz16_3 : w15.cell? ⟨gb811, 3, none⟩ = some (.slice A0_3 l0_3.length c0_3) := bc_ BK811 3; have hfz16_0 := blk_frozen BK811.out 0; have hfz16_1 := blk_frozen BK811.out 1; have hfz16_2 := blk_frozen BK811.out 2; have hfz16_3 := blk_frozen BK811.out 3) | ((with_reducible refine gate_callee (f := 24) rfl ?_); refine goesL_ (some 8) rfl rfl Try.func24 (by kernel_rfl) rfl #[.slice A0_1 l0_1.length c0_1, .int .i64 a1] rfl tm_ ?_; (with_reducible refine (laws_heldEdgeS.calls k _ _ l0_1 a1 t812 _ ?side1 ?side2 A3.out).mono ?_); (case side1 => exact ca (Kd.C_below HR0_1.out HB.out)); (case side2 => exact HC0_1.out); rintro e w' ⟨rfl, ⟨nd, rfl⟩⟩; refine ⟨_, rfl, ?_⟩) | ((with_reducible refine gate_callee (f := 27) rfl ?_); refine goesL_ (some 14) rfl rfl Try.func27 (by kernel_rfl) rfl #[.slice A0_2 l0_2.length c0_2, .int .i64 t812] rfl tm_ ?_; (with_reducible refine (laws_heldIntS.calls k _ _ l0_2 t812 t813 _ ?side1 ?side2 A7.out).mono ?_); (case side1 => exact ca (Kd.C_below HR0_2.out (hB HB))); (case side2 => exact HC0_2.out); rintro e w' ⟨rfl, ⟨nd, rfl⟩⟩; refine ⟨_, rfl, ?_⟩) | ((with_reducible refine gate_callee (f := 95) rfl ?_); refine goesL_ (some 20) rfl rfl Try.func95 (by kernel_rfl) rfl #[.slice A0_3 l0_3.length c0_3, .int .i64 t813] rfl tm_ ?_; (with_reducible refine (laws_heldPlaceS.calls k _ _ l0_3 t813 t814 _ ?side1 ?side2 A11.out).mono ?_); (case side1 => exact ca (Kd.C_below HR0_3.out (hB HB))); (case side2 => exact HC0_3.out); rintro e w' ⟨rfl, ⟨nd, rfl⟩⟩; refine ⟨_, rfl, ?_⟩))
 go_ret
 exact ⟨by first | rfl | (simp [errW_none, errW_some] <;> rfl) | (simp [*, errW_none, errW_some] <;> rfl), by repeat (first | (with_reducible first | exact HB.out | apply below_alloc | apply pw_below_drewN | apply below_drew1 | refine below_set ?_ GE811.out) | exact HB.out)⟩

end Go.Proofs.Ytnoklicihomfoaa.P
