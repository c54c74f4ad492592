import Derived.Test.YthambdfgkfkcmaaF0
import Derived.Test.YthambdfgkfkcmaaF6
import Derived.Test.YthambdfgkfkcmaaF7
import Derived.Test.YthambdfgkfkcmaaF8
namespace Go.Proofs.Ythambdfgkfkcmaa.P
open Go.RowKit Go.Proofs.YthambdfgkfkcmaaW.PrintWords Go.Proofs.YthambdfgkfkcmaaW.PrintLast Go.Proofs.YthambdfgkfkcmaaW.PrintMore
attribute [local go_sem] max2_int min2_int max_two min_two max_three min_three max_four min_four   -- for this text's walks alone
set_option linter.unusedVariables false
set_option linter.unusedSimpArgs false
attribute [local go_sem high] eqA47

/-- Two elements of a row of rows: neither leads to the other one's block. -/
theorem two_L3 {W : World} {base n cap : Nat} {ok : Nat → Prop} {ad : Addr} {xs : List (List Int)} {A0 A1 : Option Addr} {c0 c1 : Nat} (h : Kd.S (Kd.slice 3 (Kd.int .i64)) 24 W base ok (.slice (some ad) n cap) xs) (h1 : (1 : Int) < (xs.length : Int))
    (hx0 : W.cell? ad = some (.slice A0 (rd_L3 xs 0).length c0)) (hx1 : W.cell? ⟨ad.block, ad.off + 1, none⟩ = some (.slice A1 (rd_L3 xs 1).length c1)) :
    Kd.R (Kd.int .i64) 3 W base (fun k_ => no_ (.slice A1 (rd_L3 xs 1).length c1) k_) (.slice A0 (rd_L3 xs 0).length c0) (rd_L3 xs 0) ∧ Kd.R (Kd.int .i64) 3 W base (fun k_ => no_ (.slice A0 (rd_L3 xs 0).length c0) k_) (.slice A1 (rd_L3 xs 1).length c1) (rd_L3 xs 1) := by
  obtain ⟨g, q, eg, _⟩ := Kd.S_form h (by omega)
  obtain ⟨rfl, _⟩ : ad = ⟨g, 0, none⟩ ∧ True := ⟨by injection eg with e_; injection e_, trivial⟩
  have hn := (Kd.S_reads' h).1
  obtain ⟨oki, c, hcl, hM, hcc, hoki, hH⟩ := Kd.S_lend h ([] : List Int) 0 (by omega) (by omega)
  obtain ⟨_, f, hG⟩ := hH
  obtain ⟨c', hcl', hM', hcc', _⟩ := Kd.R_elem hG (([] : List Int), 0) 1 (by omega) (by omega)
  have e : xs.zipIdx.getD (1 : Int).toNat (([] : List Int), 0) = (xs.getD (1 : Int).toNat [], 1) := by
    rw [List.getD_eq_getElem?_getD, List.getD_eq_getElem?_getD, List.getElem?_zipIdx, List.getElem?_eq_getElem (show (1 : Int).toNat < xs.length by omega)]; rfl
  rw [e] at hM'
  obtain ⟨v1, rfl, hR1⟩ := hM'.2 (show (1 : Nat) ≠ (0 : Int).toNat by decide)
  obtain ⟨v0, rfl, hR0⟩ := hM
  have a0 := hcc 0 v0 rfl
  have a1 : W.cell? ⟨g, 1, none⟩ = some v1 := hcc' 0 v1 rfl
  replace hx1 : W.cell? ⟨g, 1, none⟩ = some (.slice A1 (rd_L3 xs 1).length c1) := hx1
  have b0 : some v0 = some _ := a0.symm.trans hx0
  have b1 : some v1 = some _ := a1.symm.trans hx1
  obtain rfl := Option.some.inj b0
  obtain rfl := Option.some.inj b1
  exact ⟨Kd.R_mono hR0 (fun k hk he => (hR1.1 k he.symm).1.1.2 hk), Kd.R_mono hR1 (fun k hk he => hk.1.1.2 (hR0.1 k he.symm))⟩
def spec_BackupFor.f (k : Nat) (a0 : Int) (l1 : List (S47)) (a2 : Int) (a3 : Int) : Option (List Int × List Int × Bool) := (spec_l15Two.f k a0 l1 a2 a3).bind fun t350 => (if t350 = true then ((spec_l15Ways.f k a0 l1 a2 a3).bind fun t351 => (if (t351.length : Int) < 2 then (some (([] : List Int), ([] : List Int), false)) else (if 0 < (t351.length : Int) then (if 1 < (t351.length : Int) then (some (rd_L3 t351 0, rd_L3 t351 1, true)) else (none)) else (none)))) else (some (([] : List Int), ([] : List Int), false)))
theorem spec_BackupFor.mono : ∀ a0 a1 a2 a3 k, LeO (spec_BackupFor.f k a0 a1 a2 a3) (spec_BackupFor.f (k + 1) a0 a1 a2 a3) := by
 intro a0 a1 a2 a3 k
 unfold spec_BackupFor.f
 repeat' first
   | (with_reducible exact spec_l15Two.mono _ _ _ _ _)
   | (with_reducible exact spec_l15Ways.mono _ _ _ _ _)
   | with_reducible first | exact LeO.refl _ | exact LeO.none _ | refine LeO.ite ?_ ?_ | refine LeO.bind ?_ fun _ => ?_
def spec_BackupFor.T6 : Bool × List (List Nat × List Nat) := (true, [([], []), ([0], [0]), ([1], [1]), ([], []), ([3], [3]), ([4], [4]), ([2, 0, 1, 2], [2]), ([5, 6, 0, 1, 2, 3, 4, 5, 6], [5]), ([7, 0, 1, 2, 3, 4, 5, 6, 7], [])])
def spec_BackupFor.B6 : List Nat := [0, 1, 3, 0, 8, 24, 7, 127, 255]
theorem spec_BackupFor.tab6 : rtab .any (opsOf Try.f18 6) = spec_BackupFor.T6 := by kernel_rfl
theorem spec_BackupFor.bits6 : waitsOk spec_BackupFor.T6.2 spec_BackupFor.B6 = true := by kernel_rfl
set_option maxHeartbeats 8000000 in
set_option maxRecDepth 100000 in
theorem spec_BackupFor.calls (k : Nat) (a0 : Int) (A1 : Option Addr) (c1 : Nat) (l1 : List (S47)) (a2 : Int) (a3 : Int) (r1 : List Int) (r2 : List Int) (r3 : Bool) (w : World) (hr1 : Kd.C k47 w A1 l1.length l1) (hc1 : l1.length ≤ c1) (h : spec_BackupFor.f k a0 l1 a2 a3 = some (r1, r2, r3)) :
  Calls Try.prog 18 #[.int .i64 a0, .slice A1 l1.length c1, .int .i64 a2, .int .i64 a3] w fun e w' => ∃ v0_ v1_ : Value, e = .returned (.tuple #[v0_, v1_, .bool r3]) ∧ Kd.R (Kd.int .i64) 3 w' w.heap.size (fun k_ => no_ v1_ k_) v0_ r1 ∧ Kd.R (Kd.int .i64) 3 w' w.heap.size (fun k_ => no_ v0_ k_) v1_ r2 ∧ Below w.heap.size w w' := by
 have HR1 := Aside0.mk hr1
 have HC1 := Aside0.mk hc1
 clear hr1 hc1
 have HB := Aside0.mk (Below.refl w.heap.size w)
 have H : ((spec_l15Two.f k a0 l1 a2 a3).bind fun t350 => (if t350 = true then ((spec_l15Ways.f k a0 l1 a2 a3).bind fun t351 => (if (t351.length : Int) < 2 then (some (([] : List Int), ([] : List Int), false)) else (if 0 < (t351.length : Int) then (if 1 < (t351.length : Int) then (some (rd_L3 t351 0, rd_L3 t351 1, true)) else (none)) else (none)))) else (some (([] : List Int), ([] : List Int), false)))) = some (r1, r2, r3) := h
 clear h
 replace H := Option.bind_eq_some_iff.mp H
 obtain ⟨t350, A50, H⟩ := H
 replace H : (if t350 = true then ((spec_l15Ways.f k a0 l1 a2 a3).bind fun t351 => (if (t351.length : Int) < 2 then (some (([] : List Int), ([] : List Int), false)) else (if 0 < (t351.length : Int) then (if 1 < (t351.length : Int) then (some (rd_L3 t351 0, rd_L3 t351 1, true)) else (none)) else (none)))) else (some (([] : List Int), ([] : List Int), false))) = some (r1, r2, r3) := H
 have A5 := Aside0.mk A50
 clear A50
 by_cases c6 : t350 = true
 rotate_left
 ·replace c6 := Bool.eq_false_iff.mpr c6
  subst c6
  rw [if_neg (show ¬ (false = true) by decide)] at H
  simp only [Option.some.injEq, Prod.mk.injEq] at H
  obtain ⟨rfl, rfl, rfl⟩ := H
  go_enter Try.func18, Try.ntmps18
  go_wp2_with (first | ((with_reducible refine gate_dst (N := 16) rfl ?_); refine goesL_ (some 16) rfl rfl Try.func57 (by kernel_rfl) rfl #[.int .i64 a0, .slice A1 l1.length c1, .int .i64 a2, .int .i64 a3] rfl tm_ ?_; (with_reducible refine (spec_l15Two.calls k a0 _ _ l1 a2 a3 false _ ?side1 ?side2 A5.out).mono ?_); (case side1 => exact ca HR1.out); (case side2 => exact HC1.out); rintro e w21 ⟨rfl, hb⟩; refine ⟨_, rfl, ?_⟩; replace HB := bst_ HB hb; clear hb))
  go_ret3
  exact ⟨_, _, rt_, by first | exact Kd.R_nil _ _ _ _ _ | exact Kd.N_nil _ _ _ _ _ | exact Kd.V_nil _ _ _ _ _ | exact Kd.Q_nil _ _ _ _ _ | exact Kd.S_nil _ _ _ _ _, by first | exact Kd.R_nil _ _ _ _ _ | exact Kd.N_nil _ _ _ _ _ | exact Kd.V_nil _ _ _ _ _ | exact Kd.Q_nil _ _ _ _ _ | exact Kd.S_nil _ _ _ _ _, hB HB⟩
 subst c6
 rw [if_pos rfl] at H
 replace H := Option.bind_eq_some_iff.mp H
 obtain ⟨t351, A70, H⟩ := H
 replace H : (if (t351.length : Int) < 2 then (some (([] : List Int), ([] : List Int), false)) else (if 0 < (t351.length : Int) then (if 1 < (t351.length : Int) then (some (rd_L3 t351 0, rd_L3 t351 1, true)) else (none)) else (none))) = some (r1, r2, r3) := H
 have A7 := Aside0.mk A70
 clear A70
 by_cases c8 : (t351.length : Int) < 2
 ·rw [if_pos c8] at H
  have c8b0 : decide ((t351.length : Int) < 2) = true := decide_eq_true c8
  have c8b1 : decide (t351.length < 2) = true := decide_eq_true (by omega)
  clear c8
  simp only [Option.some.injEq, Prod.mk.injEq] at H
  obtain ⟨rfl, rfl, rfl⟩ := H
  go_enter Try.func18, Try.ntmps18
  go_wp2_with (first | ((with_reducible refine gate_dst (N := 16) rfl ?_); refine goesL_ (some 16) rfl rfl Try.func57 (by kernel_rfl) rfl #[.int .i64 a0, .slice A1 l1.length c1, .int .i64 a2, .int .i64 a3] rfl tm_ ?_; (with_reducible refine (spec_l15Two.calls k a0 _ _ l1 a2 a3 true _ ?side1 ?side2 A5.out).mono ?_); (case side1 => exact ca HR1.out); (case side2 => exact HC1.out); rintro e w9 ⟨rfl, hb⟩; refine ⟨_, rfl, ?_⟩; replace HB := bst_ HB hb; clear hb) | ((with_reducible refine gate_dst (N := 22) rfl ?_); refine goesL_ (some 22) rfl rfl Try.func65 (by kernel_rfl) rfl #[.int .i64 a0, .slice A1 l1.length c1, .int .i64 a2, .int .i64 a3] rfl tm_ ?_; (with_reducible refine (spec_l15Ways.calls k a0 _ _ l1 a2 a3 t351 _ ?side1 ?side2 A7.out).mono ?_); (case side1 => exact cb_ HR1 HB); (case side2 => exact HC1.out); rintro e w10 ⟨v352, rfl, ho0, hb⟩; refine ⟨_, rfl, ?_⟩; have HO353 := Aside0.mk (Kd.S_lower ho0 (below_size (hB HB))); replace HB := bst_ HB hb; clear hb ho0; obtain ⟨Ao11, co11, eo11⟩ := Kd.S_slice HO353.out; subst eo11))
  go_ret3
  exact ⟨_, _, rt_, by first | exact Kd.R_nil _ _ _ _ _ | exact Kd.N_nil _ _ _ _ _ | exact Kd.V_nil _ _ _ _ _ | exact Kd.Q_nil _ _ _ _ _ | exact Kd.S_nil _ _ _ _ _, by first | exact Kd.R_nil _ _ _ _ _ | exact Kd.N_nil _ _ _ _ _ | exact Kd.V_nil _ _ _ _ _ | exact Kd.Q_nil _ _ _ _ _ | exact Kd.S_nil _ _ _ _ _, hB HB⟩
 rw [if_neg c8] at H
 have c8b0 : decide ((t351.length : Int) < 2) = false := decide_eq_false c8
 have c8b1 : decide (t351.length < 2) = false := decide_eq_false (by omega)
 clear c8
 by_cases c12 : 0 < (t351.length : Int)
 rotate_left
 ·rw [if_neg c12] at H
  exact absurd H (by simp)
 rw [if_pos c12] at H
 have c12b0 : decide (0 < (t351.length : Int)) = true := decide_eq_true c12
 have c12b1 : decide (0 < t351.length) = true := decide_eq_true (by omega)
 clear c12
 by_cases c13 : 1 < (t351.length : Int)
 rotate_left
 ·rw [if_neg c13] at H
  exact absurd H (by simp)
 rw [if_pos c13] at H
 have c13b0 : decide (1 < (t351.length : Int)) = true := decide_eq_true c13
 have c13b1 : decide (1 < t351.length) = true := decide_eq_true (by omega)
 clear c13
 simp only [Option.some.injEq, Prod.mk.injEq] at H
 obtain ⟨rfl, rfl, rfl⟩ := H
 go_enter Try.func18, Try.ntmps18
 try go_wp2_with (first | ((with_reducible refine gate_dst (N := 16) rfl ?_); refine goesL_ (some 16) rfl rfl Try.func57 (by kernel_rfl) rfl #[.int .i64 a0, .slice A1 l1.length c1, .int .i64 a2, .int .i64 a3] rfl tm_ ?_; (with_reducible refine (spec_l15Two.calls k a0 _ _ l1 a2 a3 true _ ?side1 ?side2 A5.out).mono ?_); (case side1 => exact ca HR1.out); (case side2 => exact HC1.out); rintro e w15 ⟨rfl, hb⟩; refine ⟨_, rfl, ?_⟩; replace HB := bst_ HB hb; clear hb) | ((with_reducible refine gate_dst (N := 22) rfl ?_); refine goesL_ (some 22) rfl rfl Try.func65 (by kernel_rfl) rfl #[.int .i64 a0, .slice A1 l1.length c1, .int .i64 a2, .int .i64 a3] rfl tm_ ?_; (with_reducible refine (spec_l15Ways.calls k a0 _ _ l1 a2 a3 t351 _ ?side1 ?side2 A7.out).mono ?_); (case side1 => exact cb_ HR1 HB); (case side2 => exact HC1.out); rintro e w16 ⟨v352, rfl, ho0, hb⟩; refine ⟨_, rfl, ?_⟩; have HO353 := Aside0.mk (Kd.S_lower ho0 (below_size (hB HB))); replace HB := bst_ HB hb; clear hb ho0; obtain ⟨Ao17, co17, eo17⟩ := Kd.S_slice HO353.out; subst eo17))
 replace HO353 := Aside0.mk (Kd.S_drew HO353.out)
 replace HB := Aside0.mk (below_drew1 HB.out)
 have p354 : 0 ≤ (0 : Int) := (by omega)
 have q354 : 0 < (t351.length : Int) := od_
 obtain ⟨ad354, A354_0, c354_0, e354, hx354_0, hl354_0, hi354_0⟩ := at_L3 (Kd.S_reads' HO353.out).2.2 0 p354 q354
 cases e354
 obtain ⟨ce354, hce354, hMe354, hcc354⟩ := Kd.S_get HO353.out [] 0 p354 (by first | exact q354 | exact od_ | (have e_ := (Kd.S_reads' HO353.out).1; omega))
 obtain ⟨ve354_0, rfl, ge354_0⟩ := hMe354
 have hv354_0 := hcc354 0 _ rfl
 rw [Nat.add_zero, show ((Kd.slice 3 (Kd.int .i64))).sz = 1 from rfl, Nat.mul_one] at hv354_0
 replace hv354_0 := Option.some.inj (hv354_0.symm.trans hx354_0)
 rw [hv354_0] at ge354_0
 have HL354_0 := Aside0.mk (show Kd.R (Kd.int .i64) 3 _ _ _ _ (rd_L3 t351 0) from ge354_0)
 clear hv354_0 ge354_0
 clear hcc354 hce354
 have qi354 : (0 < t351.length) = True := eq_true (by omega)
 (try rw [show ((0 : Int)).toNat = 0 from rfl] at hx354_0)
 (try rw [Addr.add_zero'] at hx354_0)
 have HR354_0 := Aside0.mk hi354_0
 have HC354_0 := Aside0.mk hl354_0
 clear hi354_0 hl354_0
 replace p354 := eq_true p354
 replace q354 := eq_true q354
 have p355 : 0 ≤ (1 : Int) := (by omega)
 have q355 : 1 < (t351.length : Int) := od_
 obtain ⟨ad355, A355_0, c355_0, e355, hx355_0, hl355_0, hi355_0⟩ := at_L3 (Kd.S_reads' HO353.out).2.2 1 p355 q355
 obtain rfl : ad354 = ad355 := (by injection e355)
 obtain ⟨ce355, hce355, hMe355, hcc355⟩ := Kd.S_get HO353.out [] 1 p355 (by first | exact q355 | exact od_ | (have e_ := (Kd.S_reads' HO353.out).1; omega))
 obtain ⟨ve355_0, rfl, ge355_0⟩ := hMe355
 have hv355_0 := hcc355 0 _ rfl
 rw [Nat.add_zero, show ((Kd.slice 3 (Kd.int .i64))).sz = 1 from rfl, Nat.mul_one] at hv355_0
 replace hv355_0 := Option.some.inj (hv355_0.symm.trans hx355_0)
 rw [hv355_0] at ge355_0
 have HL355_0 := Aside0.mk (show Kd.R (Kd.int .i64) 3 _ _ _ _ (rd_L3 t351 1) from ge355_0)
 clear hv355_0 ge355_0
 clear hcc355 hce355
 (try simp only [show (1 : Int).toNat = 1 from rfl, Nat.reduceMul, Nat.reduceEqDiff, Go.Addr.add, ↓reduceIte] at hx355_0)
 have qi355 : (1 < t351.length) = True := eq_true (by omega)
 (try rw [show ((1 : Int)).toNat = 1 from rfl] at hx355_0)
 have HR355_0 := Aside0.mk hi355_0
 have HC355_0 := Aside0.mk hl355_0
 clear hi355_0 hl355_0
 replace p355 := eq_true p355
 replace q355 := eq_true q355
 obtain ⟨hla_, hlb_⟩ := two_L3 HO353.out (of_eq_true q355) hx354_0 hx355_0
 replace HL354_0 := Aside0.mk hla_
 replace HL355_0 := Aside0.mk hlb_
 clear hla_ hlb_
 refine start_ (n := 9) (S := fun w' => w'.cell? ad354 = some (.slice A354_0 (rd_L3 t351 0).length c354_0) ∧ w'.cell? ⟨ad354.block, ad354.off + 1, none⟩ = some (.slice A355_0 (rd_L3 t351 1).length c355_0)) (ds := []) (bs 9 0) (by kernel_rfl) rfl rfl ⟨hx354_0, hx355_0⟩ (fun hHeld => ?_); refine with_tabW spec_BackupFor.tab6 spec_BackupFor.bits6 (fun HT_ HW_ => ?_)
 generalize w16.drew = w18 at HO353 HB HL354_0 HL355_0 HR354_0 HR355_0 hx354_0 hx355_0 hHeld ⊢
 refine pu_ 0 26 (bs 9 1) HT_ ?_
 refine pu_ 1 27 (bs 9 3) HT_ ?_
 refine pu_ 3 29 (bs 9 11) HT_ ?_
 refine pu_ 4 30 (bs 9 27) HT_ ?_
 refine tk_ 2 28 (bs 9 31) HT_ HW_ hHeld ?_
 refine pu_ 6 8 (bs 9 95) HT_ ?_
 refine tk_ 5 31 (bs 9 127) HT_ HW_ hHeld ?_
 refine pu_ 7 9 (bs 9 255) HT_ ?_
 refine pu_ 8 10 (bs 9 511) HT_ ?_
 refine done_ (done_of HT_.out (by kernel_rfl)) ?_
 try go_wp2
 go_ret3
 exact ⟨_, _, rt_, by (with_reducible repeat (first | apply Kd.R_alloc | apply Kd.R_drewN | apply Kd.R_drew)); exact Kd.R_mono HL354_0.out (fun _ hk => hk), by (with_reducible repeat (first | apply Kd.R_alloc | apply Kd.R_drewN | apply Kd.R_drew)); exact HL355_0.out, hB HB⟩

def impl_BackupFor.f (k : Nat) (a0 : Int) (l1 : List (S47)) (a2 : Int) (a3 : Int) : Option (List Int × List Int × Bool) := (impl_WaysApart.f k a0 l1 a2 a3).bind fun bt387 => (if bt387.2 = true then (if (bt387.1.length : Int) < 2 then (some (([] : List Int), ([] : List Int), false)) else (if 0 < (bt387.1.length : Int) then (if 1 < (bt387.1.length : Int) then (some (rd_L3 bt387.1 0, rd_L3 bt387.1 1, true)) else (none)) else (none))) else (some (([] : List Int), ([] : List Int), false)))
theorem impl_BackupFor.mono : ∀ a0 a1 a2 a3 k, LeO (impl_BackupFor.f k a0 a1 a2 a3) (impl_BackupFor.f (k + 1) a0 a1 a2 a3) := by
 intro a0 a1 a2 a3 k
 unfold impl_BackupFor.f
 repeat' first
   | (with_reducible exact impl_WaysApart.mono _ _ _ _ _)
   | with_reducible first | exact LeO.refl _ | exact LeO.none _ | refine LeO.ite ?_ ?_ | refine LeO.bind ?_ fun _ => ?_
def impl_BackupFor.T4 : Bool × List (List Nat × List Nat) := (true, [([], []), ([0], [0]), ([1], [1]), ([], []), ([3], [3]), ([4], [4]), ([2, 0, 1, 2], [2]), ([5, 6, 0, 1, 2, 3, 4, 5, 6], [5]), ([7, 0, 1, 2, 3, 4, 5, 6, 7], [])])
def impl_BackupFor.B4 : List Nat := [0, 1, 3, 0, 8, 24, 7, 127, 255]
theorem impl_BackupFor.tab4 : rtab .any (opsOf Try.f19 4) = impl_BackupFor.T4 := by kernel_rfl
theorem impl_BackupFor.bits4 : waitsOk impl_BackupFor.T4.2 impl_BackupFor.B4 = true := by kernel_rfl
set_option maxHeartbeats 8000000 in
set_option maxRecDepth 100000 in
theorem impl_BackupFor.calls (k : Nat) (a0 : Int) (A1 : Option Addr) (c1 : Nat) (l1 : List (S47)) (a2 : Int) (a3 : Int) (r1 : List Int) (r2 : List Int) (r3 : Bool) (w : World) (hr1 : Kd.C k47 w A1 l1.length l1) (hc1 : l1.length ≤ c1) (h : impl_BackupFor.f k a0 l1 a2 a3 = some (r1, r2, r3)) :
  Calls Try.prog 19 #[.int .i64 a0, .slice A1 l1.length c1, .int .i64 a2, .int .i64 a3] w fun e w' => ∃ v0_ v1_ : Value, e = .returned (.tuple #[v0_, v1_, .bool r3]) ∧ Kd.R (Kd.int .i64) 3 w' w.heap.size (fun k_ => no_ v1_ k_) v0_ r1 ∧ Kd.R (Kd.int .i64) 3 w' w.heap.size (fun k_ => no_ v0_ k_) v1_ r2 ∧ Below w.heap.size w w' := by
 have HR1 := Aside0.mk hr1
 have HC1 := Aside0.mk hc1
 clear hr1 hc1
 have HB := Aside0.mk (Below.refl w.heap.size w)
 have H : ((impl_WaysApart.f k a0 l1 a2 a3).bind fun bt387 => (if bt387.2 = true then (if (bt387.1.length : Int) < 2 then (some (([] : List Int), ([] : List Int), false)) else (if 0 < (bt387.1.length : Int) then (if 1 < (bt387.1.length : Int) then (some (rd_L3 bt387.1 0, rd_L3 bt387.1 1, true)) else (none)) else (none))) else (some (([] : List Int), ([] : List Int), false)))) = some (r1, r2, r3) := h
 clear h
 replace H := Option.bind_eq_some_iff.mp H
 obtain ⟨⟨t387, t388⟩, A50, H⟩ := H
 replace H : (if t388 = true then (if (t387.length : Int) < 2 then (some (([] : List Int), ([] : List Int), false)) else (if 0 < (t387.length : Int) then (if 1 < (t387.length : Int) then (some (rd_L3 t387 0, rd_L3 t387 1, true)) else (none)) else (none))) else (some (([] : List Int), ([] : List Int), false))) = some (r1, r2, r3) := H
 have A5 := Aside0.mk A50
 clear A50
 by_cases c6 : t388 = true
 rotate_left
 ·replace c6 := Bool.eq_false_iff.mpr c6
  subst c6
  rw [if_neg (show ¬ (false = true) by decide)] at H
  simp only [Option.some.injEq, Prod.mk.injEq] at H
  obtain ⟨rfl, rfl, rfl⟩ := H
  go_enter Try.func19, Try.ntmps19
  go_wp2_with (first | ((with_reducible refine gate_dst (N := 18) rfl ?_); refine goesL_ (some 18) rfl rfl Try.func21 (by kernel_rfl) rfl #[.int .i64 a0, .slice A1 l1.length c1, .int .i64 a2, .int .i64 a3] rfl tm_ ?_; (with_reducible refine (impl_WaysApart.calls k a0 _ _ l1 a2 a3 t387 false _ ?side1 ?side2 A5.out).mono ?_); (case side1 => exact ca HR1.out); (case side2 => exact HC1.out); rintro e w18 ⟨v389, rfl, ho0, hb⟩; refine ⟨_, rfl, ?_⟩; have HO390 := Aside0.mk (Kd.S_lower ho0 (below_size (hB HB))); replace HB := bst_ HB hb; clear hb ho0))
  go_ret3
  exact ⟨_, _, rt_, by first | exact Kd.R_nil _ _ _ _ _ | exact Kd.N_nil _ _ _ _ _ | exact Kd.V_nil _ _ _ _ _ | exact Kd.Q_nil _ _ _ _ _ | exact Kd.S_nil _ _ _ _ _, by first | exact Kd.R_nil _ _ _ _ _ | exact Kd.N_nil _ _ _ _ _ | exact Kd.V_nil _ _ _ _ _ | exact Kd.Q_nil _ _ _ _ _ | exact Kd.S_nil _ _ _ _ _, hB HB⟩
 subst c6
 rw [if_pos rfl] at H
 by_cases c7 : (t387.length : Int) < 2
 ·rw [if_pos c7] at H
  have c7b0 : decide ((t387.length : Int) < 2) = true := decide_eq_true c7
  have c7b1 : decide (t387.length < 2) = true := decide_eq_true (by omega)
  clear c7
  simp only [Option.some.injEq, Prod.mk.injEq] at H
  obtain ⟨rfl, rfl, rfl⟩ := H
  go_enter Try.func19, Try.ntmps19
  go_wp2_with (first | ((with_reducible refine gate_dst (N := 18) rfl ?_); refine goesL_ (some 18) rfl rfl Try.func21 (by kernel_rfl) rfl #[.int .i64 a0, .slice A1 l1.length c1, .int .i64 a2, .int .i64 a3] rfl tm_ ?_; (with_reducible refine (impl_WaysApart.calls k a0 _ _ l1 a2 a3 t387 true _ ?side1 ?side2 A5.out).mono ?_); (case side1 => exact ca HR1.out); (case side2 => exact HC1.out); rintro e w8 ⟨v389, rfl, ho0, hb⟩; refine ⟨_, rfl, ?_⟩; have HO390 := Aside0.mk (Kd.S_lower ho0 (below_size (hB HB))); replace HB := bst_ HB hb; clear hb ho0; obtain ⟨Ao9, co9, eo9⟩ := Kd.S_slice HO390.out; subst eo9))
  go_ret3
  exact ⟨_, _, rt_, by first | exact Kd.R_nil _ _ _ _ _ | exact Kd.N_nil _ _ _ _ _ | exact Kd.V_nil _ _ _ _ _ | exact Kd.Q_nil _ _ _ _ _ | exact Kd.S_nil _ _ _ _ _, by first | exact Kd.R_nil _ _ _ _ _ | exact Kd.N_nil _ _ _ _ _ | exact Kd.V_nil _ _ _ _ _ | exact Kd.Q_nil _ _ _ _ _ | exact Kd.S_nil _ _ _ _ _, hB HB⟩
 rw [if_neg c7] at H
 have c7b0 : decide ((t387.length : Int) < 2) = false := decide_eq_false c7
 have c7b1 : decide (t387.length < 2) = false := decide_eq_false (by omega)
 clear c7
 by_cases c10 : 0 < (t387.length : Int)
 rotate_left
 ·rw [if_neg c10] at H
  exact absurd H (by simp)
 rw [if_pos c10] at H
 have c10b0 : decide (0 < (t387.length : Int)) = true := decide_eq_true c10
 have c10b1 : decide (0 < t387.length) = true := decide_eq_true (by omega)
 clear c10
 by_cases c11 : 1 < (t387.length : Int)
 rotate_left
 ·rw [if_neg c11] at H
  exact absurd H (by simp)
 rw [if_pos c11] at H
 have c11b0 : decide (1 < (t387.length : Int)) = true := decide_eq_true c11
 have c11b1 : decide (1 < t387.length) = true := decide_eq_true (by omega)
 clear c11
 simp only [Option.some.injEq, Prod.mk.injEq] at H
 obtain ⟨rfl, rfl, rfl⟩ := H
 go_enter Try.func19, Try.ntmps19
 try go_wp2_with (first | ((with_reducible refine gate_dst (N := 18) rfl ?_); refine goesL_ (some 18) rfl rfl Try.func21 (by kernel_rfl) rfl #[.int .i64 a0, .slice A1 l1.length c1, .int .i64 a2, .int .i64 a3] rfl tm_ ?_; (with_reducible refine (impl_WaysApart.calls k a0 _ _ l1 a2 a3 t387 true _ ?side1 ?side2 A5.out).mono ?_); (case side1 => exact ca HR1.out); (case side2 => exact HC1.out); rintro e w13 ⟨v389, rfl, ho0, hb⟩; refine ⟨_, rfl, ?_⟩; have HO390 := Aside0.mk (Kd.S_lower ho0 (below_size (hB HB))); replace HB := bst_ HB hb; clear hb ho0; obtain ⟨Ao14, co14, eo14⟩ := Kd.S_slice HO390.out; subst eo14))
 replace HO390 := Aside0.mk (Kd.S_drew HO390.out)
 replace HB := Aside0.mk (below_drew1 HB.out)
 have p391 : 0 ≤ (0 : Int) := (by omega)
 have q391 : 0 < (t387.length : Int) := od_
 obtain ⟨ad391, A391_0, c391_0, e391, hx391_0, hl391_0, hi391_0⟩ := at_L3 (Kd.S_reads' HO390.out).2.2 0 p391 q391
 cases e391
 obtain ⟨ce391, hce391, hMe391, hcc391⟩ := Kd.S_get HO390.out [] 0 p391 (by first | exact q391 | exact od_ | (have e_ := (Kd.S_reads' HO390.out).1; omega))
 obtain ⟨ve391_0, rfl, ge391_0⟩ := hMe391
 have hv391_0 := hcc391 0 _ rfl
 rw [Nat.add_zero, show ((Kd.slice 3 (Kd.int .i64))).sz = 1 from rfl, Nat.mul_one] at hv391_0
 replace hv391_0 := Option.some.inj (hv391_0.symm.trans hx391_0)
 rw [hv391_0] at ge391_0
 have HL391_0 := Aside0.mk (show Kd.R (Kd.int .i64) 3 _ _ _ _ (rd_L3 t387 0) from ge391_0)
 clear hv391_0 ge391_0
 clear hcc391 hce391
 have qi391 : (0 < t387.length) = True := eq_true (by omega)
 (try rw [show ((0 : Int)).toNat = 0 from rfl] at hx391_0)
 (try rw [Addr.add_zero'] at hx391_0)
 have HR391_0 := Aside0.mk hi391_0
 have HC391_0 := Aside0.mk hl391_0
 clear hi391_0 hl391_0
 replace p391 := eq_true p391
 replace q391 := eq_true q391
 have p392 : 0 ≤ (1 : Int) := (by omega)
 have q392 : 1 < (t387.length : Int) := od_
 obtain ⟨ad392, A392_0, c392_0, e392, hx392_0, hl392_0, hi392_0⟩ := at_L3 (Kd.S_reads' HO390.out).2.2 1 p392 q392
 obtain rfl : ad391 = ad392 := (by injection e392)
 obtain ⟨ce392, hce392, hMe392, hcc392⟩ := Kd.S_get HO390.out [] 1 p392 (by first | exact q392 | exact od_ | (have e_ := (Kd.S_reads' HO390.out).1; omega))
 obtain ⟨ve392_0, rfl, ge392_0⟩ := hMe392
 have hv392_0 := hcc392 0 _ rfl
 rw [Nat.add_zero, show ((Kd.slice 3 (Kd.int .i64))).sz = 1 from rfl, Nat.mul_one] at hv392_0
 replace hv392_0 := Option.some.inj (hv392_0.symm.trans hx392_0)
 rw [hv392_0] at ge392_0
 have HL392_0 := Aside0.mk (show Kd.R (Kd.int .i64) 3 _ _ _ _ (rd_L3 t387 1) from ge392_0)
 clear hv392_0 ge392_0
 clear hcc392 hce392
 (try simp only [show (1 : Int).toNat = 1 from rfl, Nat.reduceMul, Nat.reduceEqDiff, Go.Addr.add, ↓reduceIte] at hx392_0)
 have qi392 : (1 < t387.length) = True := eq_true (by omega)
 (try rw [show ((1 : Int)).toNat = 1 from rfl] at hx392_0)
 have HR392_0 := Aside0.mk hi392_0
 have HC392_0 := Aside0.mk hl392_0
 clear hi392_0 hl392_0
 replace p392 := eq_true p392
 replace q392 := eq_true q392
 obtain ⟨hla_, hlb_⟩ := two_L3 HO390.out (of_eq_true q392) hx391_0 hx392_0
 replace HL391_0 := Aside0.mk hla_
 replace HL392_0 := Aside0.mk hlb_
 clear hla_ hlb_
 refine start_ (n := 9) (S := fun w' => w'.cell? ad391 = some (.slice A391_0 (rd_L3 t387 0).length c391_0) ∧ w'.cell? ⟨ad391.block, ad391.off + 1, none⟩ = some (.slice A392_0 (rd_L3 t387 1).length c392_0)) (ds := []) (bs 9 0) (by kernel_rfl) rfl rfl ⟨hx391_0, hx392_0⟩ (fun hHeld => ?_); refine with_tabW impl_BackupFor.tab4 impl_BackupFor.bits4 (fun HT_ HW_ => ?_)
 generalize w13.drew = w15 at HO390 HB HL391_0 HL392_0 HR391_0 HR392_0 hx391_0 hx392_0 hHeld ⊢
 refine pu_ 0 28 (bs 9 1) HT_ ?_
 refine pu_ 1 29 (bs 9 3) HT_ ?_
 refine pu_ 3 31 (bs 9 11) HT_ ?_
 refine pu_ 4 32 (bs 9 27) HT_ ?_
 refine tk_ 2 30 (bs 9 31) HT_ HW_ hHeld ?_
 refine pu_ 6 8 (bs 9 95) HT_ ?_
 refine tk_ 5 33 (bs 9 127) HT_ HW_ hHeld ?_
 refine pu_ 7 9 (bs 9 255) HT_ ?_
 refine pu_ 8 10 (bs 9 511) HT_ ?_
 refine done_ (done_of HT_.out (by kernel_rfl)) ?_
 try go_wp2
 go_ret3
 exact ⟨_, _, rt_, by (with_reducible repeat (first | apply Kd.R_alloc | apply Kd.R_drewN | apply Kd.R_drew)); exact Kd.R_mono HL391_0.out (fun _ hk => hk), by (with_reducible repeat (first | apply Kd.R_alloc | apply Kd.R_drewN | apply Kd.R_drew)); exact HL392_0.out, hB HB⟩

end Go.Proofs.Ythambdfgkfkcmaa.P
