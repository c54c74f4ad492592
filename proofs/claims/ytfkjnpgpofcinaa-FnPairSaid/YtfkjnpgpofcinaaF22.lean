import Derived.Test.YtfkjnpgpofcinaaF0
import Derived.Test.YtfkjnpgpofcinaaF21
namespace Go.Proofs.Ytfkjnpgpofcinaa.P
open Go.RowKit Go.Proofs.YtfkjnpgpofcinaaW.PrintWords Go.Proofs.YtfkjnpgpofcinaaW.PrintLast Go.Proofs.YtfkjnpgpofcinaaW.PrintMore
attribute [local go_sem] max2_int min2_int max_two min_two max_three min_three max_four min_four   -- for this text's walks alone
set_option linter.unusedVariables false
set_option linter.unusedSimpArgs false
attribute [local go_sem high] eqA45 eqA76 eqA83

mutual
def spec_l3Step.j0 : Nat → Bool → List Int → List Int → List (S45) → Int → Int → Option (List Int × List Int × (List (S45)) × Bool)
 | 0, _, _, _, _, _, _ => none
 | k + 1, x25, x500000, x500001, x500002, x501000, x501001 => if x25 = true then (some (x500000, x500001, x500002, false)) else (if 0 ≤ x501001 then (if x501001 < (x500000.length : Int) then (if x500002.length < 8796093022208 then (some (x500000, x500001, (x500002 ++ [(⟨x501001, ((rd x500000 x501001) != 0)⟩ : S45)]), true)) else (none)) else (none)) else (none))
def spec_l3Step.j1 : Nat → Bool → List Int → List Int → List (S45) → Int → Int → Option (List Int × List Int × (List (S45)) × Bool)
 | 0, _, _, _, _, _, _ => none
 | k + 1, x50, x500000, x500001, x500002, x501000, x501001 => if x50 = true then (if x501001 < 0 then (spec_l3Step.j2 k true x500000 x500001 x500002 x501000 x501001) else (spec_l3Step.j2 k (decide (x501001 ≥ (x500002.length : Int))) x500000 x500001 x500002 x501000 x501001)) else (some (x500000, x500001, x500002, false))
def spec_l3Step.j2 : Nat → Bool → List Int → List Int → List (S45) → Int → Int → Option (List Int × List Int × (List (S45)) × Bool)
 | 0, _, _, _, _, _, _ => none
 | k + 1, x63, x500000, x500001, x500002, x501000, x501001 => if x63 = true then (some (x500000, x500001, x500002, false)) else (if 0 ≤ x501001 then (if x501001 < (x500002.length : Int) then ((some (([] : List (S45)) : List (S45))).bind fun y518 => (if x501001 ≤ (x500002.length : Int) then ((some (x500002.take (x501001 : Int).toNat : List (S45))).bind fun y521 => (if y518.length + y521.length < 8796093022208 then ((some (y518 ++ y521 : List (S45))).bind fun y525 => (if 0 ≤ (wrap64 (x501001 + 1)) then (if (wrap64 (x501001 + 1)) ≤ (x500002.length : Int) then ((some (x500002.drop ((wrap64 (x501001 + 1)) : Int).toNat : List (S45))).bind fun y528 => (if y525.length + y528.length < 8796093022208 then ((some (y525 ++ y528 : List (S45))).bind fun y532 => (if x501000 = 2 then (if 0 ≤ (wrap64 (1 - ((rd_T45 x500002 x501001).f0))) then (if (wrap64 (1 - ((rd_T45 x500002 x501001).f0))) < (x500000.length : Int) then ((spec_NextState.f (rd x500000 (wrap64 (1 - ((rd_T45 x500002 x501001).f0)))) ((rd_T45 x500002 x501001).f1)).bind fun bt536 => (if (wrap64 (1 - ((rd_T45 x500002 x501001).f0))) < (x500001.length : Int) then (some ((x500000.set ((wrap64 (1 - ((rd_T45 x500002 x501001).f0))) : Int).toNat bt536.1), (x500001.set ((wrap64 (1 - ((rd_T45 x500002 x501001).f0))) : Int).toNat 3), y532, true)) else (none))) else (none)) else (none)) else (some (x500000, x500001, y532, true)))) else (none))) else (none)) else (none))) else (none))) else (none))) else (none)) else (none))
end
def spec_l3Step.f (k : Nat) (l0_0 : List Int) (l0_1 : List Int) (l0_2 : List (S45)) (a1_0 : Int) (a1_1 : Int) : Option (List Int × List Int × (List (S45)) × Bool) := if a1_0 = 1 then ((spec_l3Side.f a1_1).bind fun t502 => (if t502 = true then (spec_l3Step.j0 k ((l0_2.length : Int) == 12) l0_0 l0_1 l0_2 a1_0 a1_1) else (spec_l3Step.j0 k true l0_0 l0_1 l0_2 a1_0 a1_1))) else (if a1_0 = 4 then ((spec_l3Tick.f k l0_0 l0_1 l0_2).bind fun bt507 => (some (bt507.1, bt507.2.1, bt507.2.2, (a1_1 == 0)))) else (if a1_0 = 2 then (spec_l3Step.j1 k (a1_0 == 2) l0_0 l0_1 l0_2 a1_0 a1_1) else (spec_l3Step.j1 k (a1_0 == 3) l0_0 l0_1 l0_2 a1_0 a1_1)))
theorem spec_l3Step.mono_l : ∀ k, (∀ y0 y1 y2 y3 y4 y5, LeO (spec_l3Step.j0 k y0 y1 y2 y3 y4 y5) (spec_l3Step.j0 (k + 1) y0 y1 y2 y3 y4 y5)) ∧ (∀ y0 y1 y2 y3 y4 y5, LeO (spec_l3Step.j1 k y0 y1 y2 y3 y4 y5) (spec_l3Step.j1 (k + 1) y0 y1 y2 y3 y4 y5)) ∧ (∀ y0 y1 y2 y3 y4 y5, LeO (spec_l3Step.j2 k y0 y1 y2 y3 y4 y5) (spec_l3Step.j2 (k + 1) y0 y1 y2 y3 y4 y5))
 | 0 => ⟨fun _ _ _ _ _ _ r h => by simp [spec_l3Step.j0] at h, fun _ _ _ _ _ _ r h => by simp [spec_l3Step.j1] at h, fun _ _ _ _ _ _ r h => by simp [spec_l3Step.j2] at h⟩
 | k + 1 => by
  obtain ⟨ih0, ih1, ih2⟩ := spec_l3Step.mono_l k
  refine ⟨?_, ?_, ?_⟩
  ·intro y0 y1 y2 y3 y4 y5
   unfold spec_l3Step.j0
   repeat' first
   | (with_reducible exact ih0 _ _ _ _ _ _)
   | (with_reducible exact ih1 _ _ _ _ _ _)
   | (with_reducible exact ih2 _ _ _ _ _ _)
   | (with_reducible exact spec_l3Tick.mono _ _ _ _)
   | (with_reducible exact LeO.refl _)
   | (with_reducible exact LeO.none _)
   | (with_reducible refine LeO.ite ?_ ?_)
   | (with_reducible refine LeO.bind ?_ (fun _ => ?_))
  ·intro y0 y1 y2 y3 y4 y5
   unfold spec_l3Step.j1
   repeat' first
   | (with_reducible exact ih0 _ _ _ _ _ _)
   | (with_reducible exact ih1 _ _ _ _ _ _)
   | (with_reducible exact ih2 _ _ _ _ _ _)
   | (with_reducible exact spec_l3Tick.mono _ _ _ _)
   | (with_reducible exact LeO.refl _)
   | (with_reducible exact LeO.none _)
   | (with_reducible refine LeO.ite ?_ ?_)
   | (with_reducible refine LeO.bind ?_ (fun _ => ?_))
  ·intro y0 y1 y2 y3 y4 y5
   unfold spec_l3Step.j2
   repeat' first
   | (with_reducible exact ih0 _ _ _ _ _ _)
   | (with_reducible exact ih1 _ _ _ _ _ _)
   | (with_reducible exact ih2 _ _ _ _ _ _)
   | (with_reducible exact spec_l3Tick.mono _ _ _ _)
   | (with_reducible exact LeO.refl _)
   | (with_reducible exact LeO.none _)
   | (with_reducible refine LeO.ite ?_ ?_)
   | (with_reducible refine LeO.bind ?_ (fun _ => ?_))
theorem spec_l3Step.mono : ∀ a0 a1 a2 a3 a4 k, LeO (spec_l3Step.f k a0 a1 a2 a3 a4) (spec_l3Step.f (k + 1) a0 a1 a2 a3 a4) := by
 intro a0 a1 a2 a3 a4 k
 obtain ⟨ih0, ih1, ih2⟩ := spec_l3Step.mono_l k
 unfold spec_l3Step.f
 repeat' first
   | (with_reducible exact ih0 _ _ _ _ _ _)
   | (with_reducible exact ih1 _ _ _ _ _ _)
   | (with_reducible exact ih2 _ _ _ _ _ _)
   | (with_reducible exact spec_l3Tick.mono _ _ _ _)
   | (with_reducible exact LeO.refl _)
   | (with_reducible exact LeO.none _)
   | (with_reducible refine LeO.ite ?_ ?_)
   | (with_reducible refine LeO.bind ?_ (fun _ => ?_))
def spec_l3Step.T6 : Bool × List (List Nat × List Nat) := (true, [([], []), ([0], [0]), ([], []), ([2], [2]), ([], []), ([4], [4]), ([], []), ([6], [6]), ([5, 7], [5, 7]), ([8], [8]), ([9], [9]), ([3, 10], [3, 10]), ([11], [11]), ([1, 12], [1, 12]), ([0, 1, 2, 3, 4, 5, 6, 7, 8, 9, 10, 11, 12, 13], []), ([14, 13, 13, 0, 1, 2, 3, 4, 5, 6, 7, 8, 9, 10, 11, 12, 13], [13, 14])])
def spec_l3Step.B6 : List Nat := [0, 1, 0, 4, 0, 16, 0, 64, 240, 496, 1008, 2044, 4092, 8191, 16383, 32767]
theorem spec_l3Step.tab6 : rtab .any (opsOf Try.f87 6) = spec_l3Step.T6 := by kernel_rfl
theorem spec_l3Step.bits6 : waitsOk spec_l3Step.T6.2 spec_l3Step.B6 = true := by kernel_rfl
def spec_l3Step.T19 : Bool × List (List Nat × List Nat) := (true, [([], []), ([0], [0]), ([], []), ([1, 2], [1, 2]), ([3], [3]), ([], []), ([5], [5]), ([4, 6], [4, 6]), ([7], [7]), ([8], [8]), ([8], [8]), ([9, 7, 0, 1, 2, 3, 4, 5, 6, 7, 8, 9], [9]), ([10, 11, 0, 1, 2, 3, 4, 5, 6, 7, 8, 9, 10, 11], [10])])
def spec_l3Step.B19 : List Nat := [0, 1, 0, 7, 15, 0, 32, 127, 255, 511, 511, 1023, 4095]
theorem spec_l3Step.tab19 : rtab .any (opsOf Try.f87 19) = spec_l3Step.T19 := by kernel_rfl
theorem spec_l3Step.bits19 : waitsOk spec_l3Step.T19.2 spec_l3Step.B19 = true := by kernel_rfl
set_option maxHeartbeats 8000000 in
set_option maxRecDepth 100000 in
theorem spec_l3Step.calls (k : Nat) (P0_0_ : Nat → Prop) (u9000_ : Value) (l0_0 : List Int) (P0_1_ : Nat → Prop) (u9001_ : Value) (l0_1 : List Int) (P0_2_ : Nat → Prop) (u9002_ : Value) (l0_2 : List (S45)) (a1_0 : Int) (a1_1 : Int) (r1 : List Int) (r2 : List Int) (r3 : List (S45)) (r4 : Bool) (w0 w : World) (hB : Below w0.heap.size w0 w) (ho0_0 : Kd.R (Kd.int .i64) 3 w w0.heap.size P0_0_ u9000_ l0_0) (hp0_0_0_1 : ∀ k_, P0_0_ k_ → ¬ P0_1_ k_) (ho0_1 : Kd.R (Kd.int .i64) 3 w w0.heap.size P0_1_ u9001_ l0_1) (hp0_1_0_0 : ∀ k_, P0_1_ k_ → ¬ P0_0_ k_) (ho0_2 : Kd.R k45 45 w w0.heap.size P0_2_ u9002_ l0_2) (h : spec_l3Step.f k l0_0 l0_1 l0_2 a1_0 a1_1 = some (r1, r2, r3, r4)) :
  Calls Try.prog 87 #[.agg #[u9000_, u9001_, u9002_], .agg #[.int .i64 a1_0, .int .i64 a1_1]] w fun e w' => ∃ v0_ v1_ v2_ : Value, e = .returned (.tuple #[.agg #[v0_, v1_, v2_], .bool r4]) ∧ Kd.R (Kd.int .i64) 3 w' w0.heap.size (fun k_ => ((P0_0_ k_ ∨ P0_1_ k_ ∨ P0_2_ k_) ∨ w.heap.size ≤ k_) ∧ no_ v1_ k_) v0_ r1 ∧ Kd.R (Kd.int .i64) 3 w' w0.heap.size (fun k_ => ((P0_0_ k_ ∨ P0_1_ k_ ∨ P0_2_ k_) ∨ w.heap.size ≤ k_) ∧ no_ v0_ k_) v1_ r2 ∧ Kd.R k45 45 w' w0.heap.size (fun k_ => ((P0_0_ k_ ∨ P0_1_ k_ ∨ P0_2_ k_) ∨ w.heap.size ≤ k_)) v2_ r3 ∧ Below w0.heap.size w0 w' ∧ Kept w w' (fun k_ => P0_0_ k_ ∨ P0_1_ k_ ∨ P0_2_ k_) := by
 have hu35 := Try.underlying35
 have hu37 := Try.underlying37
 have hu45 := Try.underlying45
 have HO0_0 := Aside0.mk (show Kd.R (Kd.int .i64) 3 w w0.heap.size (fun k_ => ((P0_0_ k_ ∨ P0_1_ k_ ∨ P0_2_ k_) ∨ w.heap.size ≤ k_) ∧ some k_ ≠ (u9001_ : Value).ownBlock) u9000_ l0_0 from Kd.R_mono ho0_0 (fun k_ hk => ⟨(.inl (.inl hk)), fun e_ => hp0_0_0_1 k_ hk (ho0_1.1 k_ e_.symm)⟩))
 have HO0_1 := Aside0.mk (show Kd.R (Kd.int .i64) 3 w w0.heap.size (fun k_ => ((P0_0_ k_ ∨ P0_1_ k_ ∨ P0_2_ k_) ∨ w.heap.size ≤ k_) ∧ some k_ ≠ (u9000_ : Value).ownBlock) u9001_ l0_1 from Kd.R_mono ho0_1 (fun k_ hk => ⟨(.inl (.inr (.inl hk))), fun e_ => hp0_1_0_0 k_ hk (ho0_0.1 k_ e_.symm)⟩))
 have HO0_2 := Aside0.mk (show Kd.R k45 45 w w0.heap.size (fun k_ => ((P0_0_ k_ ∨ P0_1_ k_ ∨ P0_2_ k_) ∨ w.heap.size ≤ k_)) u9002_ l0_2 from Kd.R_mono ho0_2 (fun k_ hk => (.inl (.inr (.inr hk)))))
 have HK := Aside0.mk (Kept.refl w (fun k_ => P0_0_ k_ ∨ P0_1_ k_ ∨ P0_2_ k_))
 have HW0 := Aside0.mk hB.size
 have HB := Aside0.mk hB
 clear hB
 have H : (if a1_0 = 1 then ((spec_l3Side.f a1_1).bind fun t502 => (if t502 = true then (spec_l3Step.j0 k ((l0_2.length : Int) == 12) l0_0 l0_1 l0_2 a1_0 a1_1) else (spec_l3Step.j0 k true l0_0 l0_1 l0_2 a1_0 a1_1))) else (if a1_0 = 4 then ((spec_l3Tick.f k l0_0 l0_1 l0_2).bind fun bt507 => (some (bt507.1, bt507.2.1, bt507.2.2, (a1_1 == 0)))) else (if a1_0 = 2 then (spec_l3Step.j1 k (a1_0 == 2) l0_0 l0_1 l0_2 a1_0 a1_1) else (spec_l3Step.j1 k (a1_0 == 3) l0_0 l0_1 l0_2 a1_0 a1_1)))) = some (r1, r2, r3, r4) := h
 clear h
 by_cases c3 : a1_0 = 1
 ·rw [if_pos c3] at H
  have c3b0 : (a1_0 == 1) = true := beq_iff_eq.mpr c3
  have c3b1 : (a1_0 != 1) = false := bne_eq_false_iff_eq.mpr c3
  clear c3
  have HC4 := Aside0.mk H
  clear H
  obtain ⟨Ao5, co5, eo5⟩ := Kd.R_slice HO0_0.out
  subst eo5
  obtain ⟨Ao6, co6, eo6⟩ := Kd.R_slice HO0_1.out
  subst eo6
  obtain ⟨Ao7, co7, eo7⟩ := Kd.R_slice HO0_2.out
  subst eo7
  go_enter Try.func87, Try.ntmps87
  go_upto_region 4 with (first | ((with_reducible refine gate_dst (N := 2) rfl ?_); (try (refine gate_guard (by rfl) ?_; dsimp only)); refine box_event ?hg (N := 2) ?hd (cs := #[.slice Ao5 l0_0.length co5, .slice Ao6 l0_1.length co6, .slice Ao7 l0_2.length co7]) (t := 35) ?hr ?_; (case hd => rfl); (case hg => rfl); (case hr => first | (go_simp; done) | (go_simp; rfl)); intro gb499 hg w8 hbox hb; have BK499 := Aside0.mk (hbox); have GW499 := Aside0.mk ((by rw [hg]; exact (by first | exact HK.out.1 | exact (show Kept w _ (fun k_ => P0_0_ k_ ∨ P0_1_ k_ ∨ P0_2_ k_) from by repeat (first | (with_reducible first | exact HK.out | apply Kept.alloc | apply Kept.drewN | apply Kept.drew) | exact HK.out)).1) : w.heap.size ≤ gb499)); have GE499 := gw_ hg HB; replace HO0_0 := rb_ HO0_0 hb; replace HO0_1 := rb_ HO0_1 hb; replace HO0_2 := rb_ HO0_2 hb; replace HK := Aside0.mk (Kept.below (S := (fun k_ => P0_0_ k_ ∨ P0_1_ k_ ∨ P0_2_ k_)) (by repeat (first | (with_reducible first | exact HK.out | apply Kept.alloc | apply Kept.drewN | apply Kept.drew) | exact HK.out)) hb); replace HB := bst_ HB hb; clear hb hbox hg) | ((with_reducible refine gate_dst (N := 3) rfl ?_); (try (refine gate_guard (by rfl) ?_; dsimp only)); refine box_event ?hg (N := 3) ?hd (cs := #[.int .i64 a1_0, .int .i64 a1_1]) (t := 37) ?hr ?_; (case hd => rfl); (case hg => rfl); (case hr => first | (go_simp; done) | (go_simp; rfl)); intro gb500 hg w9 hbox hb; have BK500 := Aside0.mk (hbox); have GW500 := Aside0.mk ((by rw [hg]; exact (by first | exact HK.out.1 | exact (show Kept w _ (fun k_ => P0_0_ k_ ∨ P0_1_ k_ ∨ P0_2_ k_) from by repeat (first | (with_reducible first | exact HK.out | apply Kept.alloc | apply Kept.drewN | apply Kept.drew | refine Kept.setCell ?_ (.inr GW499.out) _) | exact HK.out)).1) : w.heap.size ≤ gb500)); have GE500 := gw_ hg HB; have NB499_500 := nl_ hg BK499; have NB500_499 := ng_ hg BK499; replace HO0_0 := rb_ HO0_0 hb; replace HO0_1 := rb_ HO0_1 hb; replace HO0_2 := rb_ HO0_2 hb; replace BK499 := bb_ BK499 hb; replace HK := Aside0.mk (Kept.below (S := (fun k_ => P0_0_ k_ ∨ P0_1_ k_ ∨ P0_2_ k_)) (by repeat (first | (with_reducible first | exact HK.out | apply Kept.alloc | apply Kept.drewN | apply Kept.drew | refine Kept.setCell ?_ (.inr GW499.out) _) | exact HK.out)) hb); replace HB := bst_ HB hb; clear hb hbox hg) | ((with_reducible refine gate_dst (N := 4) rfl ?_); (try (refine gate_guard (by rfl) ?_; dsimp only)); refine box_event ?hg (N := 4) ?hd (cs := #[.slice none 0 0, .slice none 0 0, .slice none 0 0]) (t := 35) ?hr ?_; (case hd => rfl); (case hg => rfl); (case hr => first | (go_simp; done) | (go_simp; rfl)); intro gb501 hg w10 hbox hb; have BK501 := Aside0.mk (hbox); have GW501 := Aside0.mk ((by rw [hg]; exact (by first | exact HK.out.1 | exact (show Kept w _ (fun k_ => P0_0_ k_ ∨ P0_1_ k_ ∨ P0_2_ k_) from by repeat (first | (with_reducible first | exact HK.out | apply Kept.alloc | apply Kept.drewN | apply Kept.drew | refine Kept.setCell ?_ (.inr GW499.out) _ | refine Kept.setCell ?_ (.inr GW500.out) _) | exact HK.out)).1) : w.heap.size ≤ gb501)); have GE501 := gw_ hg HB; have NB499_501 := nl_ hg BK499; have NB501_499 := ng_ hg BK499; have NB500_501 := nl_ hg BK500; have NB501_500 := ng_ hg BK500; replace HO0_0 := rb_ HO0_0 hb; replace HO0_1 := rb_ HO0_1 hb; replace HO0_2 := rb_ HO0_2 hb; replace BK499 := bb_ BK499 hb; replace BK500 := bb_ BK500 hb; replace HK := Aside0.mk (Kept.below (S := (fun k_ => P0_0_ k_ ∨ P0_1_ k_ ∨ P0_2_ k_)) (by repeat (first | (with_reducible first | exact HK.out | apply Kept.alloc | apply Kept.drewN | apply Kept.drew | refine Kept.setCell ?_ (.inr GW499.out) _ | refine Kept.setCell ?_ (.inr GW500.out) _) | exact HK.out)) hb); replace HB := bst_ HB hb; clear hb hbox hg; have hnb11 := NB500_499.out; have hnc11 := NB499_500.out; have hnb12 := NB500_501.out; have hnc12 := NB501_500.out; have hcz13_0 : w10.cell? ⟨gb500, 0, none⟩ = some (.int .i64 a1_0) := bc_ BK500 0; have hcz13_1 : w10.cell? ⟨gb500, 1, none⟩ = some (.int .i64 a1_1) := bc_ BK500 1; have hfz13_0 := blk_frozen BK500.out 0; have hfz13_1 := blk_frozen BK500.out 1))
  (try simp only [Act.put, List.setIfInBounds_toArray, List.set_cons_zero, List.set_cons_succ])
  go_cut [25] (fun v25 wc => ∃ (kq : Nat) (x25_3 : Bool), v25 = .bool x25_3 ∧ Aside0 (spec_l3Step.j0 kq x25_3 l0_0 l0_1 l0_2 a1_0 a1_1 = some (r1, r2, r3, r4)) ∧ Aside0 (kq ≤ k) ∧ Aside0 (Kd.R (Kd.int .i64) 3 wc w0.heap.size (fun k_ => ((P0_0_ k_ ∨ P0_1_ k_ ∨ P0_2_ k_) ∨ w.heap.size ≤ k_) ∧ no_ (.slice Ao6 l0_1.length co6) k_) (.slice Ao5 l0_0.length co5) l0_0) ∧ Aside0 (Kd.R (Kd.int .i64) 3 wc w0.heap.size (fun k_ => ((P0_0_ k_ ∨ P0_1_ k_ ∨ P0_2_ k_) ∨ w.heap.size ≤ k_) ∧ no_ (.slice Ao5 l0_0.length co5) k_) (.slice Ao6 l0_1.length co6) l0_1) ∧ Aside0 (Kd.R k45 45 wc w0.heap.size (fun k_ => ((P0_0_ k_ ∨ P0_1_ k_ ∨ P0_2_ k_) ∨ w.heap.size ≤ k_)) (.slice Ao7 l0_2.length co7) l0_2) ∧ Aside0 (wc.heap[gb499]? = some (.cells #[(.slice Ao5 l0_0.length co5), (.slice Ao6 l0_1.length co6), (.slice Ao7 l0_2.length co7)] 35 (0, 0))) ∧ Aside0 (wc.heap[gb500]? = some (.cells #[.int .i64 a1_0, .int .i64 a1_1] 37 (0, 0))) ∧ Aside0 (wc.heap[gb501]? = some (.cells #[(.slice none 0 0), (.slice none 0 0), (.slice none 0 0)] 35 (0, 0))) ∧ Aside0 (Kept w wc (fun k_ => P0_0_ k_ ∨ P0_1_ k_ ∨ P0_2_ k_)) ∧ Aside0 (Below w0.heap.size w0 wc))
  case first =>
   have H := HC4.out
   clear HC4
   replace H := Option.bind_eq_some_iff.mp H
   obtain ⟨t502, A140, H⟩ := H
   replace H : (if t502 = true then (spec_l3Step.j0 k ((l0_2.length : Int) == 12) l0_0 l0_1 l0_2 a1_0 a1_1) else (spec_l3Step.j0 k true l0_0 l0_1 l0_2 a1_0 a1_1)) = some (r1, r2, r3, r4) := H
   have A14 := Aside0.mk A140
   clear A140
   by_cases c15 : t502 = true
   rotate_left
   ·replace c15 := Bool.eq_false_iff.mpr c15
    subst c15
    rw [if_neg (show ¬ (false = true) by decide)] at H
    have H' := Aside0.mk H
    clear H
    have hnb21 := NB500_499.out
    have hnc21 := NB499_500.out
    have hnb22 := NB500_501.out
    have hnc22 := NB501_500.out
    have hcz23_0 : w10.cell? ⟨gb500, 0, none⟩ = some (.int .i64 a1_0) := bc_ BK500 0
    have hcz23_1 : w10.cell? ⟨gb500, 1, none⟩ = some (.int .i64 a1_1) := bc_ BK500 1
    have hfz23_0 := blk_frozen BK500.out 0
    have hfz23_1 := blk_frozen BK500.out 1
    go_wp2_with (first | ((with_reducible refine gate_callee (f := 91) rfl ?_); refine goesL_ (some 18) rfl rfl Try.func91 (by kernel_rfl) rfl #[.int .i64 a1_1] rfl tm_ ?_; (with_reducible refine (spec_l3Side.calls a1_1 false _ A14.out).mono ?_); rintro e w' ⟨rfl, ⟨nd, rfl⟩⟩; refine ⟨_, rfl, ?_⟩))
    go_meet
    case rel => exact ⟨_, (true), (by first | rfl | (simp; done) | (simp [*]; done)), H', ⟨by first | omega | exact Nat.le_refl _⟩, ⟨ra HO0_0.out⟩, ⟨ra HO0_1.out⟩, ⟨ra HO0_2.out⟩, ⟨by (with_reducible repeat (first | refine blk_drewN ?_ _ | refine blk_drew ?_ | refine blk_alloc ?_ _)); exact BK499.out⟩, ⟨by (with_reducible repeat (first | refine blk_drewN ?_ _ | refine blk_drew ?_ | refine blk_alloc ?_ _)); exact BK500.out⟩, ⟨by (with_reducible repeat (first | refine blk_drewN ?_ _ | refine blk_drew ?_ | refine blk_alloc ?_ _)); exact BK501.out⟩, ⟨by repeat (first | (with_reducible first | exact HK.out | apply Kept.alloc | apply Kept.drewN | apply Kept.drew | refine Kept.setCell ?_ (.inr GW499.out) _ | refine Kept.setCell ?_ (.inr GW500.out) _ | refine Kept.setCell ?_ (.inr GW501.out) _) | exact HK.out)⟩, ⟨hB HB⟩⟩
   subst c15
   rw [if_pos rfl] at H
   have H' := Aside0.mk H
   clear H
   have hnb16 := NB500_499.out
   have hnc16 := NB499_500.out
   have hnb17 := NB500_501.out
   have hnc17 := NB501_500.out
   have hcz18_0 : w10.cell? ⟨gb500, 0, none⟩ = some (.int .i64 a1_0) := bc_ BK500 0
   have hcz18_1 : w10.cell? ⟨gb500, 1, none⟩ = some (.int .i64 a1_1) := bc_ BK500 1
   have hfz18_0 := blk_frozen BK500.out 0
   have hfz18_1 := blk_frozen BK500.out 1
   go_wp2_with (first | ((with_reducible refine gate_callee (f := 91) rfl ?_); refine goesL_ (some 18) rfl rfl Try.func91 (by kernel_rfl) rfl #[.int .i64 a1_1] rfl tm_ ?_; (with_reducible refine (spec_l3Side.calls a1_1 true _ A14.out).mono ?_); rintro e w' ⟨rfl, ⟨nd, rfl⟩⟩; refine ⟨_, rfl, ?_⟩; have hnb19 := NB499_501.out; have hnc19 := NB501_499.out; have hcz20_0 : w10.cell? ⟨gb499, 0, none⟩ = some (.slice Ao5 l0_0.length co5) := bc_ BK499 0; have hcz20_1 : w10.cell? ⟨gb499, 1, none⟩ = some (.slice Ao6 l0_1.length co6) := bc_ BK499 1; have hcz20_2 : w10.cell? ⟨gb499, 2, none⟩ = some (.slice Ao7 l0_2.length co7) := bc_ BK499 2; have hfz20_0 := blk_frozen BK499.out 0; have hfz20_1 := blk_frozen BK499.out 1; have hfz20_2 := blk_frozen BK499.out 2))
   go_meet
   case rel => exact ⟨_, (((l0_2.length : Int) == 12)), (by first | rfl | (simp; done) | (simp [*]; done)), H', ⟨by first | omega | exact Nat.le_refl _⟩, ⟨ra HO0_0.out⟩, ⟨ra HO0_1.out⟩, ⟨ra HO0_2.out⟩, ⟨by (with_reducible repeat (first | refine blk_drewN ?_ _ | refine blk_drew ?_ | refine blk_alloc ?_ _)); exact BK499.out⟩, ⟨by (with_reducible repeat (first | refine blk_drewN ?_ _ | refine blk_drew ?_ | refine blk_alloc ?_ _)); exact BK500.out⟩, ⟨by (with_reducible repeat (first | refine blk_drewN ?_ _ | refine blk_drew ?_ | refine blk_alloc ?_ _)); exact BK501.out⟩, ⟨by repeat (first | (with_reducible first | exact HK.out | apply Kept.alloc | apply Kept.drewN | apply Kept.drew | refine Kept.setCell ?_ (.inr GW499.out) _ | refine Kept.setCell ?_ (.inr GW500.out) _ | refine Kept.setCell ?_ (.inr GW501.out) _) | exact HK.out)⟩, ⟨hB HB⟩⟩
  case rest =>
   clear HC4
   try clear c3
   try clear c3b0
   try clear c3b1
   try clear hcz13_0
   try clear hcz13_1
   try clear hfz13_0
   try clear hfz13_1
   obtain ⟨kq, x25_3, rfl, HA, HJ3, HO_500000, HO_500001, HO_500002, BK499, BK500, BK501, HK, HB⟩ := hcut
   cases kq with
   | zero => exact absurd HA.out (by simp [spec_l3Step.j0])
   | succ kj3 =>
    have H := HA.out
    clear HA
    simp only [spec_l3Step.j0] at H
    by_cases c24 : x25_3 = true
    ·subst c24
     rw [if_pos rfl] at H
     simp only [Option.some.injEq, Prod.mk.injEq] at H
     obtain ⟨rfl, rfl, rfl, rfl⟩ := H
     have hnb25 := NB499_500.out
     have hnc25 := NB500_499.out
     have hnb26 := NB499_501.out
     have hnc26 := NB501_499.out
     have hcz27_0 : wc.cell? ⟨gb499, 0, none⟩ = some (.slice Ao5 l0_0.length co5) := bc_ BK499 0
     have hcz27_1 : wc.cell? ⟨gb499, 1, none⟩ = some (.slice Ao6 l0_1.length co6) := bc_ BK499 1
     have hcz27_2 : wc.cell? ⟨gb499, 2, none⟩ = some (.slice Ao7 l0_2.length co7) := bc_ BK499 2
     have hfz27_0 := blk_frozen BK499.out 0
     have hfz27_1 := blk_frozen BK499.out 1
     have hfz27_2 := blk_frozen BK499.out 2
     have hnb28 := NB501_500.out
     have hnc28 := NB500_501.out
     have hcz29_0 : wc.cell? ⟨gb501, 0, none⟩ = some (.slice none 0 0) := bc_ BK501 0
     have hcz29_1 : wc.cell? ⟨gb501, 1, none⟩ = some (.slice none 0 0) := bc_ BK501 1
     have hcz29_2 : wc.cell? ⟨gb501, 2, none⟩ = some (.slice none 0 0) := bc_ BK501 2
     have hfz29_0 := blk_frozen BK501.out 0
     have hfz29_1 := blk_frozen BK501.out 1
     have hfz29_2 := blk_frozen BK501.out 2
     go_wp2
     refine bodyPost_ret (results_ct rfl _ _ gb501 35 #[.slice Ao5 l0_0.length co5, .slice Ao6 l0_1.length co6, .slice Ao7 l0_2.length co7] (0, 0) _ rfl (by (with_reducible repeat (first | refine blk_drewN ?_ _ | refine blk_drew ?_ | refine blk_alloc ?_ _)); refine blk_put (cs := #[.slice Ao5 l0_0.length co5, .slice Ao6 l0_1.length co6, .slice none 0 0]) ?_ 2 _ rfl; (with_reducible repeat (first | refine blk_drewN ?_ _ | refine blk_drew ?_ | refine blk_alloc ?_ _)); refine blk_put (cs := #[.slice Ao5 l0_0.length co5, .slice none 0 0, .slice none 0 0]) ?_ 1 _ rfl; (with_reducible repeat (first | refine blk_drewN ?_ _ | refine blk_drew ?_ | refine blk_alloc ?_ _)); refine blk_put (cs := #[.slice none 0 0, .slice none 0 0, .slice none 0 0]) ?_ 0 _ rfl; (with_reducible repeat (first | refine blk_drewN ?_ _ | refine blk_drew ?_ | refine blk_alloc ?_ _)); exact BK501.out) Try.underlying35 rfl (by kernel_rfl)) rfl ?_
     exact ⟨_, _, _, by first | rfl | (simp [errW_none, errW_some] <;> rfl) | (simp [*, errW_none, errW_some] <;> rfl), by (with_reducible repeat (first | apply Kd.R_alloc | apply Kd.R_drewN | apply Kd.R_drew)); exact Kd.R_mono (fs3_ HO_500000.out BK501.out) (fun _ hk => hk.1), by (with_reducible repeat (first | apply Kd.R_alloc | apply Kd.R_drewN | apply Kd.R_drew)); exact Kd.R_mono (fs3_ HO_500001.out BK501.out) (fun _ hk => hk.1), by (with_reducible repeat (first | apply Kd.R_alloc | apply Kd.R_drewN | apply Kd.R_drew)); exact Kd.R_mono (fs3_ HO_500002.out BK501.out) (fun _ hk => hk.1), by repeat (first | (with_reducible first | exact HB.out | apply below_alloc | apply pw_below_drewN | apply below_drew1 | refine below_set ?_ GE499.out | refine below_set ?_ GE500.out | refine below_set ?_ GE501.out) | exact HB.out), by repeat (first | (with_reducible first | exact HK.out | apply Kept.alloc | apply Kept.drewN | apply Kept.drew | refine Kept.setCell ?_ (.inr GW499.out) _ | refine Kept.setCell ?_ (.inr GW500.out) _ | refine Kept.setCell ?_ (.inr GW501.out) _) | exact HK.out)⟩
    replace c24 := Bool.eq_false_iff.mpr c24
    subst c24
    rw [if_neg (show ¬ (false = true) by decide)] at H
    by_cases c30 : 0 ≤ a1_1
    rotate_left
    ·rw [if_neg c30] at H
     exact absurd H (by simp)
    rw [if_pos c30] at H
    have c30b0 : decide (0 ≤ a1_1) = true := decide_eq_true c30
    clear c30
    by_cases c31 : a1_1 < (l0_0.length : Int)
    rotate_left
    ·rw [if_neg c31] at H
     exact absurd H (by simp)
    rw [if_pos c31] at H
    have c31b0 : decide (a1_1 < (l0_0.length : Int)) = true := decide_eq_true c31
    clear c31
    by_cases c32 : l0_2.length < 8796093022208
    rotate_left
    ·rw [if_neg c32] at H
     exact absurd H (by simp)
    rw [if_pos c32] at H
    have LMc32 := Aside0.mk c32
    clear c32
    obtain ⟨y504, hy504⟩ : ∃ y_ : List (S45), y_ = (l0_2 ++ [(⟨a1_1, ((rd l0_0 a1_1) != 0)⟩ : S45)]) := ⟨_, rfl⟩
    replace H : (some (l0_0, l0_1, y504, true)) = some (r1, r2, r3, r4) := by first | (rw [hy504]; with_reducible exact H) | (have H2_ := (Option.bind_some _ _).symm.trans H; rw [hy504]; with_reducible exact H2_) | (have H2_ := (Option.bind_some _ _).symm.trans H; with_reducible exact H2_) | with_reducible exact H | (rw [hy504]; exact H) | exact H
    have Ny504 := Aside0.mk hy504
    clear hy504
    simp only [Option.some.injEq, Prod.mk.injEq] at H
    obtain ⟨rfl, rfl, rfl, rfl⟩ := H
    try go_wp2
    replace HO_500000 := rd_ HO_500000
    replace HO_500001 := rd_ HO_500001
    replace HO_500002 := rd_ HO_500002
    replace BK499 := bd_ BK499
    replace BK500 := bd_ BK500
    replace BK501 := bd_ BK501
    replace HK := Aside0.mk (Kept.drew HK.out)
    replace HB := Aside0.mk (below_drew1 HB.out)
    have p503 : 0 ≤ (a1_1 : Int) := of_decide_eq_true (by first | (with_reducible assumption) | assumption)
    have q503 : a1_1 < (l0_0.length : Int) := of_decide_eq_true (by first | (with_reducible assumption) | assumption)
    obtain ⟨ad503, e503, hx503_0⟩ := Kd.at_int (Kd.R_reads' HO_500000.out).2.2 a1_1 p503 q503
    cases e503
    replace p503 := eq_true p503
    replace q503 := eq_true q503
    refine start_ (n := 16) (S := fun w' => w'.cell? ⟨gb499, 0, none⟩ = some (.slice (some ad503) l0_0.length co5) ∧ w'.cell? ⟨gb499, 1, none⟩ = some (.slice Ao6 l0_1.length co6) ∧ w'.cell? ⟨gb499, 2, none⟩ = some (.slice Ao7 l0_2.length co7) ∧ w'.cell? ⟨gb500, 0, none⟩ = some (.int .i64 a1_0) ∧ w'.cell? ⟨gb500, 1, none⟩ = some (.int .i64 a1_1) ∧ w'.cell? (ad503.add (a1_1).toNat) = some (.int .i64 (rd l0_0 a1_1))) (ds := [13, 15]) (bs 16 0) (by kernel_rfl) rfl rfl ⟨bc_ BK499 0, bc_ BK499 1, bc_ BK499 2, bc_ BK500 0, bc_ BK500 1, hx503_0⟩ (fun hHeld => ?_); refine with_tabW spec_l3Step.tab6 spec_l3Step.bits6 (fun HT_ HW_ => ?_)
    generalize wc.drew = w33 at HO_500000 HO_500001 HO_500002 BK499 BK500 BK501 HK HB hx503_0 hHeld ⊢
    refine pu_ 0 27 (bs 16 1) HT_ ?_
    refine pu_ 2 29 (bs 16 5) HT_ ?_
    refine pu_ 4 31 (bs 16 21) HT_ ?_
    refine pu_ 6 33 (bs 16 85) HT_ ?_
    refine tk_ 1 28 (bs 16 87) HT_ HW_ hHeld ?_
    refine tk_ 3 30 (bs 16 95) HT_ HW_ hHeld ?_
    refine tk_ 5 32 (bs 16 127) HT_ HW_ hHeld ?_
    refine tk_ 7 34 (bs 16 255) HT_ HW_ hHeld ?_
    refine pu_ 8 35 (bs 16 511) HT_ ?_
    refine tk_ 9 36 (bs 16 1023) HT_ HW_ hHeld ?_
    refine pu_ 10 37 (bs 16 2047) HT_ ?_
    refine pu_ 11 38 (bs 16 4095) HT_ ?_
    refine one_ (i := 12) (N := some 39) (bs 16 8191) rfl rfl (one_of HT_.out (by kernel_rfl)) (by decide) (fun K hK => ?_)
    refine value_ (w1 := ?_) (v := ?_) (by rfl) rfl ?_ ?_
    rotate_left 2
    ·go_simp
     constructor
     ·rfl
     ·rfl
    refine hK.out _ _ ⟨(blk_cell (blk_alloc BK499.out _) 0).trans rfl, (blk_cell (blk_alloc BK499.out _) 1).trans rfl, (blk_cell (blk_alloc BK499.out _) 2).trans rfl, (blk_cell (blk_alloc BK500.out _) 0).trans rfl, (blk_cell (blk_alloc BK500.out _) 1).trans rfl, (World.cell?_alloc_lt _ _ _ (World.block_lt_of_cell? _ _ (hHeld.2.2.2.2.2))).trans (hHeld.2.2.2.2.2)⟩ (fun hHeld => ?_)
    clear hK K
    refine nm_ 39 ?_
    refine last_ (i := 13) (N := some 40) (bs 16 16383) rfl rfl (one_of HT_.out (by kernel_rfl)) (by decide) (fun K hK => ?_)
    refine Kd.R_append_step k45 (w0 := w0) w0.heap.size (by rfl) (.tmp 28) (.tmp 39) 33 45 (.agg #[(.int .i64 0), (.bool false)]) 16 rfl Try.underlying33 info45 rfl (by decide) (by omega) (.slice Ao7 l0_2.length co7) l0_2 (⟨a1_1, ((rd l0_0 a1_1) != 0)⟩ : S45) [.int .i64 a1_1, .bool ((rd l0_0 a1_1) != 0)] (fun k_ => ((P0_0_ k_ ∨ P0_1_ k_ ∨ P0_2_ k_) ∨ w.heap.size ≤ k_)) (fun _ => False) rfl rfl ?aP (fun _ hk => hk.elim) ?aF ?aO ?aB ?aS ?aL ?_
    (case aP => exact k45_mkM _ _ _ (⟨a1_1, ((rd l0_0 a1_1) != 0)⟩ : S45))
    (case aB => exact (hB HB))
    (case aF => exact (fun k_ hk => (.inr (Nat.le_trans (by first | exact HK.out.1 | exact (show Kept w _ (fun k_ => P0_0_ k_ ∨ P0_1_ k_ ∨ P0_2_ k_) from by repeat (first | (with_reducible first | exact HK.out | apply Kept.alloc | apply Kept.drewN | apply Kept.drew | refine Kept.setCell ?_ (.inr GW499.out) _ | refine Kept.setCell ?_ (.inr GW500.out) _ | refine Kept.setCell ?_ (.inr GW501.out) _) | exact HK.out)).1) hk))))
    (case aO => exact (ra HO_500002.out))
    (case aS => exact (below_size (hB HB)))
    (case aL => have := LMc32.out; omega)
    intro v505 w34 ho hb hg hat
    rw [← Ny504.out] at ho
    have HO506 := Aside0.mk (ho)
    replace HO_500000 := Aside0.mk (Kd.R_over' (ra HO_500000.out) (Kd.R_typed (ra HO_500002.out)) (by decide) hg)
    replace HO_500001 := Aside0.mk (Kd.R_over' (ra HO_500001.out) (Kd.R_typed (ra HO_500002.out)) (by decide) hg)
    replace BK499 := Aside0.mk (blk_grown (g := gb499) (o := .cells #[.slice (some ad503) l0_0.length co5, .slice Ao6 l0_1.length co6, .slice Ao7 l0_2.length co7] 35 (0, 0)) (ba BK499.out) hg (Kd.R_ne HO_500002.out BK499.out (by decide)))
    replace BK500 := Aside0.mk (blk_grown (g := gb500) (o := .cells #[.int .i64 a1_0, .int .i64 a1_1] 37 (0, 0)) (ba BK500.out) hg (Kd.R_ne HO_500002.out BK500.out (by decide)))
    replace BK501 := Aside0.mk (blk_grown (g := gb501) (o := .cells #[.slice none 0 0, .slice none 0 0, .slice none 0 0] 35 (0, 0)) (ba BK501.out) hg (Kd.R_ne HO_500002.out BK501.out (by decide)))
    replace HB := Aside0.mk (hb)
    replace HK := Aside0.mk (Kept.of_grown (S := (fun k_ => P0_0_ k_ ∨ P0_1_ k_ ∨ P0_2_ k_)) hg (by repeat (first | (with_reducible first | exact HK.out | apply Kept.alloc | apply Kept.drewN | apply Kept.drew | refine Kept.setCell ?_ (.inr GW499.out) _ | refine Kept.setCell ?_ (.inr GW500.out) _ | refine Kept.setCell ?_ (.inr GW501.out) _) | exact HK.out)) (fun k_ e_ => (HO_500002.out.1 k_ e_)))
    clear HO_500002
    clear ho hb hg hat
    obtain ⟨Ao35, co35, eo35⟩ := Kd.R_slice HO506.out
    subst eo35
    refine hK.out _ _ ?_
    clear hK K
    refine nm_ 40 ?_
    refine pu_ 14 41 (bs 16 32767) HT_ ?_
    refine last_ (i := 15) (N := none) (bs 16 65535) rfl rfl (one_of HT_.out (by kernel_rfl)) (by decide) (fun K hK => ?_)
    have hs36 : w34.cell? ⟨gb499, 2, none⟩ = some (.slice Ao7 l0_2.length co7) := bc_ BK499 2
    have hfs36 := blk_frozen BK499.out 2
    have hns36_1 := NB500_499.out
    have hns36_2 := NB501_499.out
    have hms36_1 := NB499_500.out
    have hms36_2 := NB499_501.out
    refine skip_ (w1 := ?_) (by rfl) rfl ?_ ?_
    rotate_left
    ·go_simp
     rfl
    refine hK.out _ _ ?_
    clear hK K
    refine done_ (done_of HT_.out (by kernel_rfl)) ?_
    have hnb37 := NB499_500.out
    have hnc37 := NB500_499.out
    have hnb38 := NB499_501.out
    have hnc38 := NB501_499.out
    have hcz39_0 : w34.cell? ⟨gb499, 0, none⟩ = some (.slice (some ad503) l0_0.length co5) := bc_ BK499 0
    have hcz39_1 : w34.cell? ⟨gb499, 1, none⟩ = some (.slice Ao6 l0_1.length co6) := bc_ BK499 1
    have hcz39_2 : w34.cell? ⟨gb499, 2, none⟩ = some (.slice Ao7 l0_2.length co7) := bc_ BK499 2
    have hfz39_0 := blk_frozen BK499.out 0
    have hfz39_1 := blk_frozen BK499.out 1
    have hfz39_2 := blk_frozen BK499.out 2
    have hnb40 := NB501_500.out
    have hnc40 := NB500_501.out
    have hcz41_0 : w34.cell? ⟨gb501, 0, none⟩ = some (.slice none 0 0) := bc_ BK501 0
    have hcz41_1 : w34.cell? ⟨gb501, 1, none⟩ = some (.slice none 0 0) := bc_ BK501 1
    have hcz41_2 : w34.cell? ⟨gb501, 2, none⟩ = some (.slice none 0 0) := bc_ BK501 2
    have hfz41_0 := blk_frozen BK501.out 0
    have hfz41_1 := blk_frozen BK501.out 1
    have hfz41_2 := blk_frozen BK501.out 2
    try go_wp2
    refine bodyPost_ret (results_ct rfl _ _ gb501 35 #[.slice (some ad503) l0_0.length co5, .slice Ao6 l0_1.length co6, .slice Ao35 y504.length co35] (0, 0) _ rfl (by (with_reducible repeat (first | refine blk_drewN ?_ _ | refine blk_drew ?_ | refine blk_alloc ?_ _)); refine blk_put (cs := #[.slice (some ad503) l0_0.length co5, .slice Ao6 l0_1.length co6, .slice none 0 0]) ?_ 2 _ rfl; (with_reducible repeat (first | refine blk_drewN ?_ _ | refine blk_drew ?_ | refine blk_alloc ?_ _)); refine blk_put (cs := #[.slice (some ad503) l0_0.length co5, .slice none 0 0, .slice none 0 0]) ?_ 1 _ rfl; (with_reducible repeat (first | refine blk_drewN ?_ _ | refine blk_drew ?_ | refine blk_alloc ?_ _)); refine blk_put (cs := #[.slice none 0 0, .slice none 0 0, .slice none 0 0]) ?_ 0 _ rfl; (with_reducible repeat (first | refine blk_drewN ?_ _ | refine blk_drew ?_ | refine blk_alloc ?_ _)); refine blk_far ?_ NB501_499.out _; (with_reducible repeat (first | refine blk_drewN ?_ _ | refine blk_drew ?_ | refine blk_alloc ?_ _)); exact BK501.out) Try.underlying35 rfl (by kernel_rfl)) rfl ?_
    exact ⟨_, _, _, by first | rfl | (simp [errW_none, errW_some] <;> rfl) | (simp [*, errW_none, errW_some] <;> rfl), by (with_reducible repeat (first | apply Kd.R_alloc | apply Kd.R_drewN | apply Kd.R_drew)); exact Kd.R_mono (Kd.R_far (p := ⟨gb501, 2, none⟩) (Kd.R_far (p := ⟨gb501, 1, none⟩) (Kd.R_far (p := ⟨gb501, 0, none⟩) (Kd.R_far (p := ⟨gb499, 2, none⟩) (Kd.R_types (Kd.R_types HO_500000.out BK499.out (by decide)) BK501.out (by decide)) (fun _ hk => hk.1.2) (.slice Ao35 y504.length co35)) (fun _ hk => hk.2) (.slice (some ad503) l0_0.length co5)) (fun _ hk => hk.2) (.slice Ao6 l0_1.length co6)) (fun _ hk => hk.2) (.slice Ao35 y504.length co35)) (fun _ hk => hk.1.1), by (with_reducible repeat (first | apply Kd.R_alloc | apply Kd.R_drewN | apply Kd.R_drew)); exact Kd.R_mono (Kd.R_far (p := ⟨gb501, 2, none⟩) (Kd.R_far (p := ⟨gb501, 1, none⟩) (Kd.R_far (p := ⟨gb501, 0, none⟩) (Kd.R_far (p := ⟨gb499, 2, none⟩) (Kd.R_types (Kd.R_types HO_500001.out BK499.out (by decide)) BK501.out (by decide)) (fun _ hk => hk.1.2) (.slice Ao35 y504.length co35)) (fun _ hk => hk.2) (.slice (some ad503) l0_0.length co5)) (fun _ hk => hk.2) (.slice Ao6 l0_1.length co6)) (fun _ hk => hk.2) (.slice Ao35 y504.length co35)) (fun _ hk => hk.1.1), by (with_reducible repeat (first | apply Kd.R_alloc | apply Kd.R_drewN | apply Kd.R_drew)); exact Kd.R_mono (Kd.R_far (p := ⟨gb501, 2, none⟩) (Kd.R_far (p := ⟨gb501, 1, none⟩) (Kd.R_far (p := ⟨gb501, 0, none⟩) (Kd.R_far (p := ⟨gb499, 2, none⟩) (Kd.R_types (Kd.R_types HO506.out BK499.out (by decide)) BK501.out (by decide)) (fun _ hk => hk.1.2) (.slice Ao35 y504.length co35)) (fun _ hk => hk.2) (.slice (some ad503) l0_0.length co5)) (fun _ hk => hk.2) (.slice Ao6 l0_1.length co6)) (fun _ hk => hk.2) (.slice Ao35 y504.length co35)) (fun _ hk => hk.1.1), by repeat (first | (with_reducible first | exact HB.out | apply below_alloc | apply pw_below_drewN | apply below_drew1 | refine below_set ?_ GE499.out | refine below_set ?_ GE500.out | refine below_set ?_ GE501.out) | exact HB.out), by repeat (first | (with_reducible first | exact HK.out | apply Kept.alloc | apply Kept.drewN | apply Kept.drew | refine Kept.setCell ?_ (.inr GW499.out) _ | refine Kept.setCell ?_ (.inr GW500.out) _ | refine Kept.setCell ?_ (.inr GW501.out) _) | exact HK.out)⟩
 rw [if_neg c3] at H
 have c3b0 : (a1_0 == 1) = false := beq_eq_false_iff_ne.mpr c3
 have c3b1 : (a1_0 != 1) = true := bne_iff_ne.mpr c3
 by_cases c42 : a1_0 = 4
 ·rw [if_pos c42] at H
  have c42b0 : (a1_0 == 4) = true := beq_iff_eq.mpr c42
  have c42b1 : (a1_0 != 4) = false := bne_eq_false_iff_eq.mpr c42
  clear c42
  replace H := Option.bind_eq_some_iff.mp H
  obtain ⟨⟨t507, t510, t513⟩, A430, H⟩ := H
  replace H : (some (t507, t510, t513, (a1_1 == 0))) = some (r1, r2, r3, r4) := H
  have A43 := Aside0.mk A430
  clear A430
  simp only [Option.some.injEq, Prod.mk.injEq] at H
  obtain ⟨rfl, rfl, rfl, rfl⟩ := H
  obtain ⟨Ao44, co44, eo44⟩ := Kd.R_slice HO0_0.out
  subst eo44
  obtain ⟨Ao45, co45, eo45⟩ := Kd.R_slice HO0_1.out
  subst eo45
  obtain ⟨Ao46, co46, eo46⟩ := Kd.R_slice HO0_2.out
  subst eo46
  go_enter Try.func87, Try.ntmps87
  try go_wp2_with (first | ((with_reducible refine gate_dst (N := 2) rfl ?_); (try (refine gate_guard (by rfl) ?_; dsimp only)); refine box_event ?hg (N := 2) ?hd (cs := #[.slice Ao44 l0_0.length co44, .slice Ao45 l0_1.length co45, .slice Ao46 l0_2.length co46]) (t := 35) ?hr ?_; (case hd => rfl); (case hg => rfl); (case hr => first | (go_simp; done) | (go_simp; rfl)); intro gb499 hg w47 hbox hb; have BK499 := Aside0.mk (hbox); have GW499 := Aside0.mk ((by rw [hg]; exact (by first | exact HK.out.1 | exact (show Kept w _ (fun k_ => P0_0_ k_ ∨ P0_1_ k_ ∨ P0_2_ k_) from by repeat (first | (with_reducible first | exact HK.out | apply Kept.alloc | apply Kept.drewN | apply Kept.drew) | exact HK.out)).1) : w.heap.size ≤ gb499)); have GE499 := gw_ hg HB; replace HO0_0 := rb_ HO0_0 hb; replace HO0_1 := rb_ HO0_1 hb; replace HO0_2 := rb_ HO0_2 hb; replace HK := Aside0.mk (Kept.below (S := (fun k_ => P0_0_ k_ ∨ P0_1_ k_ ∨ P0_2_ k_)) (by repeat (first | (with_reducible first | exact HK.out | apply Kept.alloc | apply Kept.drewN | apply Kept.drew) | exact HK.out)) hb); replace HB := bst_ HB hb; clear hb hbox hg) | ((with_reducible refine gate_dst (N := 3) rfl ?_); (try (refine gate_guard (by rfl) ?_; dsimp only)); refine box_event ?hg (N := 3) ?hd (cs := #[.int .i64 a1_0, .int .i64 a1_1]) (t := 37) ?hr ?_; (case hd => rfl); (case hg => rfl); (case hr => first | (go_simp; done) | (go_simp; rfl)); intro gb500 hg w48 hbox hb; have BK500 := Aside0.mk (hbox); have GW500 := Aside0.mk ((by rw [hg]; exact (by first | exact HK.out.1 | exact (show Kept w _ (fun k_ => P0_0_ k_ ∨ P0_1_ k_ ∨ P0_2_ k_) from by repeat (first | (with_reducible first | exact HK.out | apply Kept.alloc | apply Kept.drewN | apply Kept.drew | refine Kept.setCell ?_ (.inr GW499.out) _) | exact HK.out)).1) : w.heap.size ≤ gb500)); have GE500 := gw_ hg HB; have NB499_500 := nl_ hg BK499; have NB500_499 := ng_ hg BK499; replace HO0_0 := rb_ HO0_0 hb; replace HO0_1 := rb_ HO0_1 hb; replace HO0_2 := rb_ HO0_2 hb; replace BK499 := bb_ BK499 hb; replace HK := Aside0.mk (Kept.below (S := (fun k_ => P0_0_ k_ ∨ P0_1_ k_ ∨ P0_2_ k_)) (by repeat (first | (with_reducible first | exact HK.out | apply Kept.alloc | apply Kept.drewN | apply Kept.drew | refine Kept.setCell ?_ (.inr GW499.out) _) | exact HK.out)) hb); replace HB := bst_ HB hb; clear hb hbox hg) | ((with_reducible refine gate_dst (N := 4) rfl ?_); (try (refine gate_guard (by rfl) ?_; dsimp only)); refine box_event ?hg (N := 4) ?hd (cs := #[.slice none 0 0, .slice none 0 0, .slice none 0 0]) (t := 35) ?hr ?_; (case hd => rfl); (case hg => rfl); (case hr => first | (go_simp; done) | (go_simp; rfl)); intro gb501 hg w49 hbox hb; have BK501 := Aside0.mk (hbox); have GW501 := Aside0.mk ((by rw [hg]; exact (by first | exact HK.out.1 | exact (show Kept w _ (fun k_ => P0_0_ k_ ∨ P0_1_ k_ ∨ P0_2_ k_) from by repeat (first | (with_reducible first | exact HK.out | apply Kept.alloc | apply Kept.drewN | apply Kept.drew | refine Kept.setCell ?_ (.inr GW499.out) _ | refine Kept.setCell ?_ (.inr GW500.out) _) | exact HK.out)).1) : w.heap.size ≤ gb501)); have GE501 := gw_ hg HB; have NB499_501 := nl_ hg BK499; have NB501_499 := ng_ hg BK499; have NB500_501 := nl_ hg BK500; have NB501_500 := ng_ hg BK500; replace HO0_0 := rb_ HO0_0 hb; replace HO0_1 := rb_ HO0_1 hb; replace HO0_2 := rb_ HO0_2 hb; replace BK499 := bb_ BK499 hb; replace BK500 := bb_ BK500 hb; replace HK := Aside0.mk (Kept.below (S := (fun k_ => P0_0_ k_ ∨ P0_1_ k_ ∨ P0_2_ k_)) (by repeat (first | (with_reducible first | exact HK.out | apply Kept.alloc | apply Kept.drewN | apply Kept.drew | refine Kept.setCell ?_ (.inr GW499.out) _ | refine Kept.setCell ?_ (.inr GW500.out) _) | exact HK.out)) hb); replace HB := bst_ HB hb; clear hb hbox hg; have hnb50 := NB500_499.out; have hnc50 := NB499_500.out; have hnb51 := NB500_501.out; have hnc51 := NB501_500.out; have hcz52_0 : w49.cell? ⟨gb500, 0, none⟩ = some (.int .i64 a1_0) := bc_ BK500 0; have hcz52_1 : w49.cell? ⟨gb500, 1, none⟩ = some (.int .i64 a1_1) := bc_ BK500 1; have hfz52_0 := blk_frozen BK500.out 0; have hfz52_1 := blk_frozen BK500.out 1))
  replace HO0_0 := rd_ HO0_0
  replace HO0_1 := rd_ HO0_1
  replace HO0_2 := rd_ HO0_2
  replace BK499 := bd_ BK499
  replace BK500 := bd_ BK500
  replace BK501 := bd_ BK501
  replace HK := Aside0.mk (Kept.drew HK.out)
  replace HB := Aside0.mk (below_drew1 HB.out)
  refine start_ (n := 7) (S := fun w' => w'.cell? ⟨gb499, 0, none⟩ = some (.slice Ao44 l0_0.length co44) ∧ w'.cell? ⟨gb499, 1, none⟩ = some (.slice Ao45 l0_1.length co45) ∧ w'.cell? ⟨gb499, 2, none⟩ = some (.slice Ao46 l0_2.length co46) ∧ w'.cell? ⟨gb500, 0, none⟩ = some (.int .i64 a1_0) ∧ w'.cell? ⟨gb500, 1, none⟩ = some (.int .i64 a1_1)) (ds := []) (bs 7 0) (by kernel_rfl) rfl rfl ⟨bc_ BK499 0, bc_ BK499 1, bc_ BK499 2, bc_ BK500 0, bc_ BK500 1⟩ (fun hHeld => ?_)
  generalize w49.drew = w53 at HO0_0 HO0_1 HO0_2 BK499 BK500 BK501 HK HB hHeld ⊢
  refine pure_ (i := 2) (N := some 47) (v := ?_) (a' := ?_) (bs 7 4) rfl rfl (by kernel_rfl) (fun _ _ _ h => h) (Or.inl ⟨by rfl, ?_⟩) ?_ ?_
  rotate_left
  ·intro w'
   go_simp
   with_reducible rfl
  rotate_left
  ·simp only [Act.put, List.setIfInBounds_toArray, List.set_cons_zero, List.set_cons_succ, i64_w, i32_w]
   rfl
  refine take_ (i := 0) (N := some 45) (v := ?_) (a' := ?_) (bs 7 5) rfl rfl (by kernel_rfl) (fun _ _ _ h => h) (Or.inl ⟨by rfl, ?_⟩) hHeld ?_ ?_
  rotate_left
  ·rintro w' ⟨s0, s1, s2, s3, s4⟩
   go_simp
   with_reducible rfl
  rotate_left
  ·simp only [Act.put, List.setIfInBounds_toArray, List.set_cons_zero, List.set_cons_succ, i64_w, i32_w]
   rfl
  refine take_ (i := 3) (N := some 48) (v := ?_) (a' := ?_) (bs 7 13) rfl rfl (by kernel_rfl) (fun _ _ _ h => h) (Or.inl ⟨by rfl, ?_⟩) hHeld ?_ ?_
  rotate_left
  ·rintro w' ⟨s0, s1, s2, s3, s4⟩
   go_simp
   with_reducible rfl
  rotate_left
  ·simp only [Act.put, List.setIfInBounds_toArray, List.set_cons_zero, List.set_cons_succ, i64_w, i32_w]
   rfl
  refine pure_ (i := 4) (N := some 49) (v := ?_) (a' := ?_) (bs 7 29) rfl rfl (by kernel_rfl) (fun _ _ _ h => h) (Or.inl ⟨by rfl, ?_⟩) ?_ ?_
  rotate_left
  ·intro w'
   go_simp
   with_reducible rfl
  rotate_left
  ·simp only [Act.put, List.setIfInBounds_toArray, List.set_cons_zero, List.set_cons_succ, i64_w, i32_w]
   rfl
  refine one_ (i := 1) (N := some 46) (bs 7 31) rfl rfl (by kernel_rfl) (by decide) (fun K hK => ?_)
  refine goes_ Try.func131 (by kernel_rfl) rfl #[.agg #[.slice Ao44 l0_0.length co44, .slice Ao45 l0_1.length co45, .slice Ao46 l0_2.length co46]] (by rfl) rfl rfl tm_ ?_
  with_reducible refine (spec_l3Tick.calls k (fun k_ => some k_ = (.slice Ao44 l0_0.length co44 : Value).ownBlock) (.slice Ao44 l0_0.length co44) l0_0 (fun k_ => some k_ = (.slice Ao45 l0_1.length co45 : Value).ownBlock) (.slice Ao45 l0_1.length co45) l0_1 (fun k_ => some k_ = (.slice Ao46 l0_2.length co46 : Value).ownBlock) (.slice Ao46 l0_2.length co46) l0_2 t507 t510 t513 w0 _ ?side1 ?side2 ?side3 ?side4 ?side5 ?side6 A43.out).mono ?_
  (case side1 => repeat (first | (with_reducible first | exact HB.out | apply below_alloc | apply pw_below_drewN | apply below_drew1 | refine below_set ?_ GE499.out | refine below_set ?_ GE500.out | refine below_set ?_ GE501.out) | exact HB.out))
  (case side2 => exact Kd.R_tight rfl HO0_0.out)
  (case side3 => exact fun k_ e_ => (HO0_0.out.1 k_ e_.symm).2)
  (case side4 => exact Kd.R_tight rfl HO0_1.out)
  (case side5 => exact fun k_ e_ => (HO0_1.out.1 k_ e_.symm).2)
  (case side6 => exact Kd.R_tight rfl HO0_2.out)
  rintro e w54 ⟨v508, v511, v514, rfl, ho0, ho1, ho2, hb, hkp⟩
  refine ⟨_, rfl, ?_⟩
  have HO509 := Aside0.mk (Kd.R_mono (ok' := fun k_ => ((P0_0_ k_ ∨ P0_1_ k_ ∨ P0_2_ k_) ∨ w.heap.size ≤ k_) ∧ no_ v511 k_) ho0 (fun k_ hk_ => ⟨Or.elim hk_.1 (fun hs_ => Or.elim hs_ (fun hs_ => (HO0_0.out.1 k_ (hs_).symm).1) (fun hs_ => Or.elim hs_ (fun hs_ => (HO0_1.out.1 k_ (hs_).symm).1) (fun hs_ => (HO0_2.out.1 k_ (hs_).symm)))) (fun hn_ => (.inr (Nat.le_trans (by first | exact HK.out.1 | exact (show Kept w _ (fun k_ => P0_0_ k_ ∨ P0_1_ k_ ∨ P0_2_ k_) from by repeat (first | (with_reducible first | exact HK.out | apply Kept.alloc | apply Kept.drewN | apply Kept.drew | refine Kept.setCell ?_ (.inr GW499.out) _ | refine Kept.setCell ?_ (.inr GW500.out) _ | refine Kept.setCell ?_ (.inr GW501.out) _) | exact HK.out)).1) hn_))), hk_.2⟩))
  have HO512 := Aside0.mk (Kd.R_mono (ok' := fun k_ => ((P0_0_ k_ ∨ P0_1_ k_ ∨ P0_2_ k_) ∨ w.heap.size ≤ k_) ∧ no_ v508 k_) ho1 (fun k_ hk_ => ⟨Or.elim hk_.1 (fun hs_ => Or.elim hs_ (fun hs_ => (HO0_0.out.1 k_ (hs_).symm).1) (fun hs_ => Or.elim hs_ (fun hs_ => (HO0_1.out.1 k_ (hs_).symm).1) (fun hs_ => (HO0_2.out.1 k_ (hs_).symm)))) (fun hn_ => (.inr (Nat.le_trans (by first | exact HK.out.1 | exact (show Kept w _ (fun k_ => P0_0_ k_ ∨ P0_1_ k_ ∨ P0_2_ k_) from by repeat (first | (with_reducible first | exact HK.out | apply Kept.alloc | apply Kept.drewN | apply Kept.drew | refine Kept.setCell ?_ (.inr GW499.out) _ | refine Kept.setCell ?_ (.inr GW500.out) _ | refine Kept.setCell ?_ (.inr GW501.out) _) | exact HK.out)).1) hn_))), hk_.2⟩))
  have HO515 := Aside0.mk (Kd.R_mono (ok' := fun k_ => ((P0_0_ k_ ∨ P0_1_ k_ ∨ P0_2_ k_) ∨ w.heap.size ≤ k_)) ho2 (fun k_ hk_ => Or.elim hk_ (fun hs_ => Or.elim hs_ (fun hs_ => (HO0_0.out.1 k_ (hs_).symm).1) (fun hs_ => Or.elim hs_ (fun hs_ => (HO0_1.out.1 k_ (hs_).symm).1) (fun hs_ => (HO0_2.out.1 k_ (hs_).symm)))) (fun hn_ => (.inr (Nat.le_trans (by first | exact HK.out.1 | exact (show Kept w _ (fun k_ => P0_0_ k_ ∨ P0_1_ k_ ∨ P0_2_ k_) from by repeat (first | (with_reducible first | exact HK.out | apply Kept.alloc | apply Kept.drewN | apply Kept.drew | refine Kept.setCell ?_ (.inr GW499.out) _ | refine Kept.setCell ?_ (.inr GW500.out) _ | refine Kept.setCell ?_ (.inr GW501.out) _) | exact HK.out)).1) hn_)))))
  replace BK499 := Aside0.mk (blk_kept (ba BK499.out) hkp (fun hs_ => Or.elim hs_ (kne_ HO0_0 BK499) (fun e_ => Or.elim e_ (kne_ HO0_1 BK499) (kne_ HO0_2 BK499))))
  replace BK500 := Aside0.mk (blk_kept (ba BK500.out) hkp (fun hs_ => Or.elim hs_ (kne_ HO0_0 BK500) (fun e_ => Or.elim e_ (kne_ HO0_1 BK500) (kne_ HO0_2 BK500))))
  replace BK501 := Aside0.mk (blk_kept (ba BK501.out) hkp (fun hs_ => Or.elim hs_ (kne_ HO0_0 BK501) (fun e_ => Or.elim e_ (kne_ HO0_1 BK501) (kne_ HO0_2 BK501))))
  replace HK := Aside0.mk (Kept.then_ (S := (fun k_ => P0_0_ k_ ∨ P0_1_ k_ ∨ P0_2_ k_)) (by repeat (first | (with_reducible first | exact HK.out | apply Kept.alloc | apply Kept.drewN | apply Kept.drew | refine Kept.setCell ?_ (.inr GW499.out) _ | refine Kept.setCell ?_ (.inr GW500.out) _ | refine Kept.setCell ?_ (.inr GW501.out) _) | exact HK.out)) hkp (fun k_ hs_ => Or.elim hs_ (fun e_ => (fun e_ => (HO0_0.out.1 k_ e_.symm).1) e_) (fun e_ => Or.elim e_ (fun e_ => (fun e_ => (HO0_1.out.1 k_ e_.symm).1) e_) (fun e_ => (fun e_ => (HO0_2.out.1 k_ e_.symm)) e_))))
  replace HB := Aside0.mk (hb)
  clear HO0_0 HO0_1 HO0_2
  clear hb ho0 ho1 ho2
  obtain ⟨Ao55, co55, eo55⟩ := Kd.R_slice HO509.out
  subst eo55
  obtain ⟨Ao57, co57, eo57⟩ := Kd.R_slice HO512.out
  subst eo57
  obtain ⟨Ao59, co59, eo59⟩ := Kd.R_slice HO515.out
  subst eo59
  refine hK.out _ _ ⟨bc_ BK499 0, bc_ BK499 1, bc_ BK499 2, bc_ BK500 0, bc_ BK500 1⟩ (fun hHeld => ?_)
  clear hK K
  refine nm_ 46 ?_
  refine one_ (i := 5) (N := none) (bs 7 63) rfl rfl (by kernel_rfl) (by decide) (fun K hK => ?_)
  have hs56 : w54.cell? ⟨gb501, 0, none⟩ = some (.slice none 0 0) := bc_ BK501 0
  have hfs56 := blk_frozen BK501.out 0
  have hns56_0 := NB499_501.out
  have hns56_1 := NB500_501.out
  have hms56_0 := NB501_499.out
  have hms56_1 := NB501_500.out
  have hs58 : w54.cell? ⟨gb501, 1, none⟩ = some (.slice none 0 0) := bc_ BK501 1
  have hfs58 := blk_frozen BK501.out 1
  have hns58_0 := NB499_501.out
  have hns58_1 := NB500_501.out
  have hms58_0 := NB501_499.out
  have hms58_1 := NB501_500.out
  have hs60 : w54.cell? ⟨gb501, 2, none⟩ = some (.slice none 0 0) := bc_ BK501 2
  have hfs60 := blk_frozen BK501.out 2
  have hns60_0 := NB499_501.out
  have hns60_1 := NB500_501.out
  have hms60_0 := NB501_499.out
  have hms60_1 := NB501_500.out
  refine skip_ (w1 := ?_) (by rfl) rfl ?_ ?_
  rotate_left
  ·go_simp
   rfl
  refine hK.out _ _ ⟨((cell_far (p := ⟨gb501, _, none⟩) NB499_501.out _).trans (((cell_far (p := ⟨gb501, _, none⟩) NB499_501.out _).trans (((cell_far (p := ⟨gb501, _, none⟩) NB499_501.out _).trans (hHeld.1)))))), ((cell_far (p := ⟨gb501, _, none⟩) NB499_501.out _).trans (((cell_far (p := ⟨gb501, _, none⟩) NB499_501.out _).trans (((cell_far (p := ⟨gb501, _, none⟩) NB499_501.out _).trans (hHeld.2.1)))))), ((cell_far (p := ⟨gb501, _, none⟩) NB499_501.out _).trans (((cell_far (p := ⟨gb501, _, none⟩) NB499_501.out _).trans (((cell_far (p := ⟨gb501, _, none⟩) NB499_501.out _).trans (hHeld.2.2.1)))))), ((cell_far (p := ⟨gb501, _, none⟩) NB500_501.out _).trans (((cell_far (p := ⟨gb501, _, none⟩) NB500_501.out _).trans (((cell_far (p := ⟨gb501, _, none⟩) NB500_501.out _).trans (hHeld.2.2.2.1)))))), ((cell_far (p := ⟨gb501, _, none⟩) NB500_501.out _).trans (((cell_far (p := ⟨gb501, _, none⟩) NB500_501.out _).trans (((cell_far (p := ⟨gb501, _, none⟩) NB500_501.out _).trans (hHeld.2.2.2.2))))))⟩ (fun hHeld => ?_)
  clear hK K
  refine pure_ (i := 6) (N := some 5) (v := ?_) (a' := ?_) (bs 7 127) rfl rfl (by kernel_rfl) (fun _ _ _ h => h) (Or.inl ⟨by rfl, ?_⟩) ?_ ?_
  rotate_left
  ·intro w'
   go_simp
   with_reducible rfl
  rotate_left
  ·simp only [Act.put, List.setIfInBounds_toArray, List.set_cons_zero, List.set_cons_succ, i64_w, i32_w]
   rfl
  refine done_ (by kernel_rfl) ?_
  try go_wp2
  refine bodyPost_ret (results_ct rfl _ _ gb501 35 #[.slice Ao55 t507.length co55, .slice Ao57 t510.length co57, .slice Ao59 t513.length co59] (0, 0) _ rfl (by (with_reducible repeat (first | refine blk_drewN ?_ _ | refine blk_drew ?_ | refine blk_alloc ?_ _)); refine blk_put (cs := #[.slice Ao55 t507.length co55, .slice Ao57 t510.length co57, .slice none 0 0]) ?_ 2 _ rfl; (with_reducible repeat (first | refine blk_drewN ?_ _ | refine blk_drew ?_ | refine blk_alloc ?_ _)); refine blk_put (cs := #[.slice Ao55 t507.length co55, .slice none 0 0, .slice none 0 0]) ?_ 1 _ rfl; (with_reducible repeat (first | refine blk_drewN ?_ _ | refine blk_drew ?_ | refine blk_alloc ?_ _)); refine blk_put (cs := #[.slice none 0 0, .slice none 0 0, .slice none 0 0]) ?_ 0 _ rfl; (with_reducible repeat (first | refine blk_drewN ?_ _ | refine blk_drew ?_ | refine blk_alloc ?_ _)); exact BK501.out) Try.underlying35 rfl (by kernel_rfl)) rfl ?_
  exact ⟨_, _, _, by first | rfl | (simp [errW_none, errW_some] <;> rfl) | (simp [*, errW_none, errW_some] <;> rfl), by (with_reducible repeat (first | apply Kd.R_alloc | apply Kd.R_drewN | apply Kd.R_drew)); exact Kd.R_mono (fs3_ HO509.out BK501.out) (fun _ hk => hk.1), by (with_reducible repeat (first | apply Kd.R_alloc | apply Kd.R_drewN | apply Kd.R_drew)); exact Kd.R_mono (fs3_ HO512.out BK501.out) (fun _ hk => hk.1), by (with_reducible repeat (first | apply Kd.R_alloc | apply Kd.R_drewN | apply Kd.R_drew)); exact Kd.R_mono (fs3_ HO515.out BK501.out) (fun _ hk => hk.1), by repeat (first | (with_reducible first | exact HB.out | apply below_alloc | apply pw_below_drewN | apply below_drew1 | refine below_set ?_ GE499.out | refine below_set ?_ GE500.out | refine below_set ?_ GE501.out) | exact HB.out), by repeat (first | (with_reducible first | exact HK.out | apply Kept.alloc | apply Kept.drewN | apply Kept.drew | refine Kept.setCell ?_ (.inr GW499.out) _ | refine Kept.setCell ?_ (.inr GW500.out) _ | refine Kept.setCell ?_ (.inr GW501.out) _) | exact HK.out)⟩
 rw [if_neg c42] at H
 have c42b0 : (a1_0 == 4) = false := beq_eq_false_iff_ne.mpr c42
 have c42b1 : (a1_0 != 4) = true := bne_iff_ne.mpr c42
 have HC61 := Aside0.mk H
 clear H
 obtain ⟨Ao62, co62, eo62⟩ := Kd.R_slice HO0_0.out
 subst eo62
 obtain ⟨Ao63, co63, eo63⟩ := Kd.R_slice HO0_1.out
 subst eo63
 obtain ⟨Ao64, co64, eo64⟩ := Kd.R_slice HO0_2.out
 subst eo64
 go_enter Try.func87, Try.ntmps87
 go_upto_if 50 with (first | ((with_reducible refine gate_dst (N := 2) rfl ?_); (try (refine gate_guard (by rfl) ?_; dsimp only)); refine box_event ?hg (N := 2) ?hd (cs := #[.slice Ao62 l0_0.length co62, .slice Ao63 l0_1.length co63, .slice Ao64 l0_2.length co64]) (t := 35) ?hr ?_; (case hd => rfl); (case hg => rfl); (case hr => first | (go_simp; done) | (go_simp; rfl)); intro gb499 hg w65 hbox hb; have BK499 := Aside0.mk (hbox); have GW499 := Aside0.mk ((by rw [hg]; exact (by first | exact HK.out.1 | exact (show Kept w _ (fun k_ => P0_0_ k_ ∨ P0_1_ k_ ∨ P0_2_ k_) from by repeat (first | (with_reducible first | exact HK.out | apply Kept.alloc | apply Kept.drewN | apply Kept.drew) | exact HK.out)).1) : w.heap.size ≤ gb499)); have GE499 := gw_ hg HB; replace HO0_0 := rb_ HO0_0 hb; replace HO0_1 := rb_ HO0_1 hb; replace HO0_2 := rb_ HO0_2 hb; replace HK := Aside0.mk (Kept.below (S := (fun k_ => P0_0_ k_ ∨ P0_1_ k_ ∨ P0_2_ k_)) (by repeat (first | (with_reducible first | exact HK.out | apply Kept.alloc | apply Kept.drewN | apply Kept.drew) | exact HK.out)) hb); replace HB := bst_ HB hb; clear hb hbox hg) | ((with_reducible refine gate_dst (N := 3) rfl ?_); (try (refine gate_guard (by rfl) ?_; dsimp only)); refine box_event ?hg (N := 3) ?hd (cs := #[.int .i64 a1_0, .int .i64 a1_1]) (t := 37) ?hr ?_; (case hd => rfl); (case hg => rfl); (case hr => first | (go_simp; done) | (go_simp; rfl)); intro gb500 hg w66 hbox hb; have BK500 := Aside0.mk (hbox); have GW500 := Aside0.mk ((by rw [hg]; exact (by first | exact HK.out.1 | exact (show Kept w _ (fun k_ => P0_0_ k_ ∨ P0_1_ k_ ∨ P0_2_ k_) from by repeat (first | (with_reducible first | exact HK.out | apply Kept.alloc | apply Kept.drewN | apply Kept.drew | refine Kept.setCell ?_ (.inr GW499.out) _) | exact HK.out)).1) : w.heap.size ≤ gb500)); have GE500 := gw_ hg HB; have NB499_500 := nl_ hg BK499; have NB500_499 := ng_ hg BK499; replace HO0_0 := rb_ HO0_0 hb; replace HO0_1 := rb_ HO0_1 hb; replace HO0_2 := rb_ HO0_2 hb; replace BK499 := bb_ BK499 hb; replace HK := Aside0.mk (Kept.below (S := (fun k_ => P0_0_ k_ ∨ P0_1_ k_ ∨ P0_2_ k_)) (by repeat (first | (with_reducible first | exact HK.out | apply Kept.alloc | apply Kept.drewN | apply Kept.drew | refine Kept.setCell ?_ (.inr GW499.out) _) | exact HK.out)) hb); replace HB := bst_ HB hb; clear hb hbox hg) | ((with_reducible refine gate_dst (N := 4) rfl ?_); (try (refine gate_guard (by rfl) ?_; dsimp only)); refine box_event ?hg (N := 4) ?hd (cs := #[.slice none 0 0, .slice none 0 0, .slice none 0 0]) (t := 35) ?hr ?_; (case hd => rfl); (case hg => rfl); (case hr => first | (go_simp; done) | (go_simp; rfl)); intro gb501 hg w67 hbox hb; have BK501 := Aside0.mk (hbox); have GW501 := Aside0.mk ((by rw [hg]; exact (by first | exact HK.out.1 | exact (show Kept w _ (fun k_ => P0_0_ k_ ∨ P0_1_ k_ ∨ P0_2_ k_) from by repeat (first | (with_reducible first | exact HK.out | apply Kept.alloc | apply Kept.drewN | apply Kept.drew | refine Kept.setCell ?_ (.inr GW499.out) _ | refine Kept.setCell ?_ (.inr GW500.out) _) | exact HK.out)).1) : w.heap.size ≤ gb501)); have GE501 := gw_ hg HB; have NB499_501 := nl_ hg BK499; have NB501_499 := ng_ hg BK499; have NB500_501 := nl_ hg BK500; have NB501_500 := ng_ hg BK500; replace HO0_0 := rb_ HO0_0 hb; replace HO0_1 := rb_ HO0_1 hb; replace HO0_2 := rb_ HO0_2 hb; replace BK499 := bb_ BK499 hb; replace BK500 := bb_ BK500 hb; replace HK := Aside0.mk (Kept.below (S := (fun k_ => P0_0_ k_ ∨ P0_1_ k_ ∨ P0_2_ k_)) (by repeat (first | (with_reducible first | exact HK.out | apply Kept.alloc | apply Kept.drewN | apply Kept.drew | refine Kept.setCell ?_ (.inr GW499.out) _ | refine Kept.setCell ?_ (.inr GW500.out) _) | exact HK.out)) hb); replace HB := bst_ HB hb; clear hb hbox hg; have hnb68 := NB500_499.out; have hnc68 := NB499_500.out; have hnb69 := NB500_501.out; have hnc69 := NB501_500.out; have hcz70_0 : w67.cell? ⟨gb500, 0, none⟩ = some (.int .i64 a1_0) := bc_ BK500 0; have hcz70_1 : w67.cell? ⟨gb500, 1, none⟩ = some (.int .i64 a1_1) := bc_ BK500 1; have hfz70_0 := blk_frozen BK500.out 0; have hfz70_1 := blk_frozen BK500.out 1))
 (try simp only [Act.put, List.setIfInBounds_toArray, List.set_cons_zero, List.set_cons_succ])
 go_cut [50] (fun v50 wc => ∃ (kq : Nat) (x50_60 : Bool), v50 = .bool x50_60 ∧ Aside0 (spec_l3Step.j1 kq x50_60 l0_0 l0_1 l0_2 a1_0 a1_1 = some (r1, r2, r3, r4)) ∧ Aside0 (kq ≤ k) ∧ Aside0 (Kd.R (Kd.int .i64) 3 wc w0.heap.size (fun k_ => ((P0_0_ k_ ∨ P0_1_ k_ ∨ P0_2_ k_) ∨ w.heap.size ≤ k_) ∧ no_ (.slice Ao63 l0_1.length co63) k_) (.slice Ao62 l0_0.length co62) l0_0) ∧ Aside0 (Kd.R (Kd.int .i64) 3 wc w0.heap.size (fun k_ => ((P0_0_ k_ ∨ P0_1_ k_ ∨ P0_2_ k_) ∨ w.heap.size ≤ k_) ∧ no_ (.slice Ao62 l0_0.length co62) k_) (.slice Ao63 l0_1.length co63) l0_1) ∧ Aside0 (Kd.R k45 45 wc w0.heap.size (fun k_ => ((P0_0_ k_ ∨ P0_1_ k_ ∨ P0_2_ k_) ∨ w.heap.size ≤ k_)) (.slice Ao64 l0_2.length co64) l0_2) ∧ Aside0 (wc.heap[gb499]? = some (.cells #[(.slice Ao62 l0_0.length co62), (.slice Ao63 l0_1.length co63), (.slice Ao64 l0_2.length co64)] 35 (0, 0))) ∧ Aside0 (wc.heap[gb500]? = some (.cells #[.int .i64 a1_0, .int .i64 a1_1] 37 (0, 0))) ∧ Aside0 (wc.heap[gb501]? = some (.cells #[(.slice none 0 0), (.slice none 0 0), (.slice none 0 0)] 35 (0, 0))) ∧ Aside0 (Kept w wc (fun k_ => P0_0_ k_ ∨ P0_1_ k_ ∨ P0_2_ k_)) ∧ Aside0 (Below w0.heap.size w0 wc))
 case first =>
  have H := HC61.out
  clear HC61
  by_cases c71 : a1_0 = 2
  rotate_left
  ·rw [if_neg c71] at H
   have c71b0 : (a1_0 == 2) = false := beq_eq_false_iff_ne.mpr c71
   have c71b1 : (a1_0 != 2) = true := bne_iff_ne.mpr c71
   (first | rw [c71b0] | (simp only [i64_w, i32_w]; rw [c71b0]) | skip)
   have H' := Aside0.mk H
   clear H
   go_wp2
   go_meet
   case rel => exact ⟨_, ((a1_0 == 3)), (by first | rfl | (simp; done) | (simp [*]; done)), H', ⟨by first | omega | exact Nat.le_refl _⟩, ⟨ra HO0_0.out⟩, ⟨ra HO0_1.out⟩, ⟨ra HO0_2.out⟩, ⟨by (with_reducible repeat (first | refine blk_drewN ?_ _ | refine blk_drew ?_ | refine blk_alloc ?_ _)); exact BK499.out⟩, ⟨by (with_reducible repeat (first | refine blk_drewN ?_ _ | refine blk_drew ?_ | refine blk_alloc ?_ _)); exact BK500.out⟩, ⟨by (with_reducible repeat (first | refine blk_drewN ?_ _ | refine blk_drew ?_ | refine blk_alloc ?_ _)); exact BK501.out⟩, ⟨by repeat (first | (with_reducible first | exact HK.out | apply Kept.alloc | apply Kept.drewN | apply Kept.drew | refine Kept.setCell ?_ (.inr GW499.out) _ | refine Kept.setCell ?_ (.inr GW500.out) _ | refine Kept.setCell ?_ (.inr GW501.out) _) | exact HK.out)⟩, ⟨hB HB⟩⟩
  rw [if_pos c71] at H
  have c71b0 : (a1_0 == 2) = true := beq_iff_eq.mpr c71
  have c71b1 : (a1_0 != 2) = false := bne_eq_false_iff_eq.mpr c71
  clear c71
  (first | rw [c71b0] | (simp only [i64_w, i32_w]; rw [c71b0]) | skip)
  have H' := Aside0.mk H
  clear H
  go_wp2
  go_meet
  case rel => exact ⟨_, ((a1_0 == 2)), (by first | rfl | (simp; done) | (simp [*]; done)), H', ⟨by first | omega | exact Nat.le_refl _⟩, ⟨ra HO0_0.out⟩, ⟨ra HO0_1.out⟩, ⟨ra HO0_2.out⟩, ⟨by (with_reducible repeat (first | refine blk_drewN ?_ _ | refine blk_drew ?_ | refine blk_alloc ?_ _)); exact BK499.out⟩, ⟨by (with_reducible repeat (first | refine blk_drewN ?_ _ | refine blk_drew ?_ | refine blk_alloc ?_ _)); exact BK500.out⟩, ⟨by (with_reducible repeat (first | refine blk_drewN ?_ _ | refine blk_drew ?_ | refine blk_alloc ?_ _)); exact BK501.out⟩, ⟨by repeat (first | (with_reducible first | exact HK.out | apply Kept.alloc | apply Kept.drewN | apply Kept.drew | refine Kept.setCell ?_ (.inr GW499.out) _ | refine Kept.setCell ?_ (.inr GW500.out) _ | refine Kept.setCell ?_ (.inr GW501.out) _) | exact HK.out)⟩, ⟨hB HB⟩⟩
 case rest =>
  clear HC61
  try clear c3
  try clear c3b0
  try clear c3b1
  try clear c42
  try clear c42b0
  try clear c42b1
  try clear hcz70_0
  try clear hcz70_1
  try clear hfz70_0
  try clear hfz70_1
  obtain ⟨kq, x50_60, rfl, HA, HJ60, HO_500000, HO_500001, HO_500002, BK499, BK500, BK501, HK, HB⟩ := hcut
  cases kq with
  | zero => exact absurd HA.out (by simp [spec_l3Step.j1])
  | succ kj60 =>
   have H := HA.out
   clear HA
   simp only [spec_l3Step.j1] at H
   by_cases c72 : x50_60 = true
   rotate_left
   ·replace c72 := Bool.eq_false_iff.mpr c72
    subst c72
    rw [if_neg (show ¬ (false = true) by decide)] at H
    simp only [Option.some.injEq, Prod.mk.injEq] at H
    obtain ⟨rfl, rfl, rfl, rfl⟩ := H
    have hnb164 := NB499_500.out
    have hnc164 := NB500_499.out
    have hnb165 := NB499_501.out
    have hnc165 := NB501_499.out
    have hcz166_0 : wc.cell? ⟨gb499, 0, none⟩ = some (.slice Ao62 l0_0.length co62) := bc_ BK499 0
    have hcz166_1 : wc.cell? ⟨gb499, 1, none⟩ = some (.slice Ao63 l0_1.length co63) := bc_ BK499 1
    have hcz166_2 : wc.cell? ⟨gb499, 2, none⟩ = some (.slice Ao64 l0_2.length co64) := bc_ BK499 2
    have hfz166_0 := blk_frozen BK499.out 0
    have hfz166_1 := blk_frozen BK499.out 1
    have hfz166_2 := blk_frozen BK499.out 2
    have hnb167 := NB501_500.out
    have hnc167 := NB500_501.out
    have hcz168_0 : wc.cell? ⟨gb501, 0, none⟩ = some (.slice none 0 0) := bc_ BK501 0
    have hcz168_1 : wc.cell? ⟨gb501, 1, none⟩ = some (.slice none 0 0) := bc_ BK501 1
    have hcz168_2 : wc.cell? ⟨gb501, 2, none⟩ = some (.slice none 0 0) := bc_ BK501 2
    have hfz168_0 := blk_frozen BK501.out 0
    have hfz168_1 := blk_frozen BK501.out 1
    have hfz168_2 := blk_frozen BK501.out 2
    go_wp2
    refine bodyPost_ret (results_ct rfl _ _ gb501 35 #[.slice Ao62 l0_0.length co62, .slice Ao63 l0_1.length co63, .slice Ao64 l0_2.length co64] (0, 0) _ rfl (by (with_reducible repeat (first | refine blk_drewN ?_ _ | refine blk_drew ?_ | refine blk_alloc ?_ _)); refine blk_put (cs := #[.slice Ao62 l0_0.length co62, .slice Ao63 l0_1.length co63, .slice none 0 0]) ?_ 2 _ rfl; (with_reducible repeat (first | refine blk_drewN ?_ _ | refine blk_drew ?_ | refine blk_alloc ?_ _)); refine blk_put (cs := #[.slice Ao62 l0_0.length co62, .slice none 0 0, .slice none 0 0]) ?_ 1 _ rfl; (with_reducible repeat (first | refine blk_drewN ?_ _ | refine blk_drew ?_ | refine blk_alloc ?_ _)); refine blk_put (cs := #[.slice none 0 0, .slice none 0 0, .slice none 0 0]) ?_ 0 _ rfl; (with_reducible repeat (first | refine blk_drewN ?_ _ | refine blk_drew ?_ | refine blk_alloc ?_ _)); exact BK501.out) Try.underlying35 rfl (by kernel_rfl)) rfl ?_
    exact ⟨_, _, _, by first | rfl | (simp [errW_none, errW_some] <;> rfl) | (simp [*, errW_none, errW_some] <;> rfl), by (with_reducible repeat (first | apply Kd.R_alloc | apply Kd.R_drewN | apply Kd.R_drew)); exact Kd.R_mono (fs3_ HO_500000.out BK501.out) (fun _ hk => hk.1), by (with_reducible repeat (first | apply Kd.R_alloc | apply Kd.R_drewN | apply Kd.R_drew)); exact Kd.R_mono (fs3_ HO_500001.out BK501.out) (fun _ hk => hk.1), by (with_reducible repeat (first | apply Kd.R_alloc | apply Kd.R_drewN | apply Kd.R_drew)); exact Kd.R_mono (fs3_ HO_500002.out BK501.out) (fun _ hk => hk.1), by repeat (first | (with_reducible first | exact HB.out | apply below_alloc | apply pw_below_drewN | apply below_drew1 | refine below_set ?_ GE499.out | refine below_set ?_ GE500.out | refine below_set ?_ GE501.out) | exact HB.out), by repeat (first | (with_reducible first | exact HK.out | apply Kept.alloc | apply Kept.drewN | apply Kept.drew | refine Kept.setCell ?_ (.inr GW499.out) _ | refine Kept.setCell ?_ (.inr GW500.out) _ | refine Kept.setCell ?_ (.inr GW501.out) _) | exact HK.out)⟩
   subst c72
   rw [if_pos rfl] at H
   have HC73 := Aside0.mk H
   clear H
   go_upto_region 12 with (fail)
   go_cut [63] (fun v63 wc => ∃ (kq : Nat) (x63_72 : Bool), v63 = .bool x63_72 ∧ Aside0 (spec_l3Step.j2 kq x63_72 l0_0 l0_1 l0_2 a1_0 a1_1 = some (r1, r2, r3, r4)) ∧ Aside0 (kq ≤ kj60) ∧ Aside0 (Kd.R (Kd.int .i64) 3 wc w0.heap.size (fun k_ => ((P0_0_ k_ ∨ P0_1_ k_ ∨ P0_2_ k_) ∨ w.heap.size ≤ k_) ∧ no_ (.slice Ao63 l0_1.length co63) k_) (.slice Ao62 l0_0.length co62) l0_0) ∧ Aside0 (Kd.R (Kd.int .i64) 3 wc w0.heap.size (fun k_ => ((P0_0_ k_ ∨ P0_1_ k_ ∨ P0_2_ k_) ∨ w.heap.size ≤ k_) ∧ no_ (.slice Ao62 l0_0.length co62) k_) (.slice Ao63 l0_1.length co63) l0_1) ∧ Aside0 (Kd.R k45 45 wc w0.heap.size (fun k_ => ((P0_0_ k_ ∨ P0_1_ k_ ∨ P0_2_ k_) ∨ w.heap.size ≤ k_)) (.slice Ao64 l0_2.length co64) l0_2) ∧ Aside0 (wc.heap[gb499]? = some (.cells #[(.slice Ao62 l0_0.length co62), (.slice Ao63 l0_1.length co63), (.slice Ao64 l0_2.length co64)] 35 (0, 0))) ∧ Aside0 (wc.heap[gb500]? = some (.cells #[.int .i64 a1_0, .int .i64 a1_1] 37 (0, 0))) ∧ Aside0 (wc.heap[gb501]? = some (.cells #[(.slice none 0 0), (.slice none 0 0), (.slice none 0 0)] 35 (0, 0))) ∧ Aside0 (Kept w wc (fun k_ => P0_0_ k_ ∨ P0_1_ k_ ∨ P0_2_ k_)) ∧ Aside0 (Below w0.heap.size w0 wc))
   case first =>
    have H := HC73.out
    clear HC73
    by_cases c74 : a1_1 < 0
    ·rw [if_pos c74] at H
     have c74b0 : decide (a1_1 < 0) = true := decide_eq_true c74
     clear c74
     (first | rw [c74b0] | (simp only [i64_w, i32_w]; rw [c74b0]) | skip)
     have H' := Aside0.mk H
     clear H
     have hnb75 := NB500_499.out
     have hnc75 := NB499_500.out
     have hnb76 := NB500_501.out
     have hnc76 := NB501_500.out
     have hcz77_0 : wc.cell? ⟨gb500, 0, none⟩ = some (.int .i64 a1_0) := bc_ BK500 0
     have hcz77_1 : wc.cell? ⟨gb500, 1, none⟩ = some (.int .i64 a1_1) := bc_ BK500 1
     have hfz77_0 := blk_frozen BK500.out 0
     have hfz77_1 := blk_frozen BK500.out 1
     go_wp2
     go_meet
     case rel => exact ⟨_, (true), (by first | rfl | (simp; done) | (simp [*]; done)), H', ⟨by have := HJ60.out; first | omega | exact Nat.le_refl _⟩, ⟨ra HO_500000.out⟩, ⟨ra HO_500001.out⟩, ⟨ra HO_500002.out⟩, ⟨by (with_reducible repeat (first | refine blk_drewN ?_ _ | refine blk_drew ?_ | refine blk_alloc ?_ _)); exact BK499.out⟩, ⟨by (with_reducible repeat (first | refine blk_drewN ?_ _ | refine blk_drew ?_ | refine blk_alloc ?_ _)); exact BK500.out⟩, ⟨by (with_reducible repeat (first | refine blk_drewN ?_ _ | refine blk_drew ?_ | refine blk_alloc ?_ _)); exact BK501.out⟩, ⟨by repeat (first | (with_reducible first | exact HK.out | apply Kept.alloc | apply Kept.drewN | apply Kept.drew | refine Kept.setCell ?_ (.inr GW499.out) _ | refine Kept.setCell ?_ (.inr GW500.out) _ | refine Kept.setCell ?_ (.inr GW501.out) _) | exact HK.out)⟩, ⟨hB HB⟩⟩
    rw [if_neg c74] at H
    have c74b0 : decide (a1_1 < 0) = false := decide_eq_false c74
    clear c74
    (first | rw [c74b0] | (simp only [i64_w, i32_w]; rw [c74b0]) | skip)
    have H' := Aside0.mk H
    clear H
    have hnb78 := NB500_499.out
    have hnc78 := NB499_500.out
    have hnb79 := NB500_501.out
    have hnc79 := NB501_500.out
    have hcz80_0 : wc.cell? ⟨gb500, 0, none⟩ = some (.int .i64 a1_0) := bc_ BK500 0
    have hcz80_1 : wc.cell? ⟨gb500, 1, none⟩ = some (.int .i64 a1_1) := bc_ BK500 1
    have hfz80_0 := blk_frozen BK500.out 0
    have hfz80_1 := blk_frozen BK500.out 1
    have hnb81 := NB499_501.out
    have hnc81 := NB501_499.out
    have hcz82_0 : wc.cell? ⟨gb499, 0, none⟩ = some (.slice Ao62 l0_0.length co62) := bc_ BK499 0
    have hcz82_1 : wc.cell? ⟨gb499, 1, none⟩ = some (.slice Ao63 l0_1.length co63) := bc_ BK499 1
    have hcz82_2 : wc.cell? ⟨gb499, 2, none⟩ = some (.slice Ao64 l0_2.length co64) := bc_ BK499 2
    have hfz82_0 := blk_frozen BK499.out 0
    have hfz82_1 := blk_frozen BK499.out 1
    have hfz82_2 := blk_frozen BK499.out 2
    go_wp2
    go_meet
    case rel => exact ⟨_, (decide (a1_1 ≥ (l0_2.length : Int))), (by first | rfl | (simp; done) | (simp [*]; done)), H', ⟨by have := HJ60.out; first | omega | exact Nat.le_refl _⟩, ⟨ra HO_500000.out⟩, ⟨ra HO_500001.out⟩, ⟨ra HO_500002.out⟩, ⟨by (with_reducible repeat (first | refine blk_drewN ?_ _ | refine blk_drew ?_ | refine blk_alloc ?_ _)); exact BK499.out⟩, ⟨by (with_reducible repeat (first | refine blk_drewN ?_ _ | refine blk_drew ?_ | refine blk_alloc ?_ _)); exact BK500.out⟩, ⟨by (with_reducible repeat (first | refine blk_drewN ?_ _ | refine blk_drew ?_ | refine blk_alloc ?_ _)); exact BK501.out⟩, ⟨by repeat (first | (with_reducible first | exact HK.out | apply Kept.alloc | apply Kept.drewN | apply Kept.drew | refine Kept.setCell ?_ (.inr GW499.out) _ | refine Kept.setCell ?_ (.inr GW500.out) _ | refine Kept.setCell ?_ (.inr GW501.out) _) | exact HK.out)⟩, ⟨hB HB⟩⟩
   case rest =>
    clear HC73
    try clear c3
    try clear c3b0
    try clear c3b1
    try clear c42
    try clear c42b0
    try clear c42b1
    try clear c72
    try clear hcz70_0
    try clear hcz70_1
    try clear hfz70_0
    try clear hfz70_1
    obtain ⟨kq, x63_72, rfl, HA, HJ72, HO_500000, HO_500001, HO_500002, BK499, BK500, BK501, HK, HB⟩ := hcut
    cases kq with
    | zero => exact absurd HA.out (by simp [spec_l3Step.j2])
    | succ kj72 =>
     have H := HA.out
     clear HA
     simp only [spec_l3Step.j2] at H
     by_cases c83 : x63_72 = true
     ·subst c83
      rw [if_pos rfl] at H
      simp only [Option.some.injEq, Prod.mk.injEq] at H
      obtain ⟨rfl, rfl, rfl, rfl⟩ := H
      have hnb84 := NB499_500.out
      have hnc84 := NB500_499.out
      have hnb85 := NB499_501.out
      have hnc85 := NB501_499.out
      have hcz86_0 : wc.cell? ⟨gb499, 0, none⟩ = some (.slice Ao62 l0_0.length co62) := bc_ BK499 0
      have hcz86_1 : wc.cell? ⟨gb499, 1, none⟩ = some (.slice Ao63 l0_1.length co63) := bc_ BK499 1
      have hcz86_2 : wc.cell? ⟨gb499, 2, none⟩ = some (.slice Ao64 l0_2.length co64) := bc_ BK499 2
      have hfz86_0 := blk_frozen BK499.out 0
      have hfz86_1 := blk_frozen BK499.out 1
      have hfz86_2 := blk_frozen BK499.out 2
      have hnb87 := NB501_500.out
      have hnc87 := NB500_501.out
      have hcz88_0 : wc.cell? ⟨gb501, 0, none⟩ = some (.slice none 0 0) := bc_ BK501 0
      have hcz88_1 : wc.cell? ⟨gb501, 1, none⟩ = some (.slice none 0 0) := bc_ BK501 1
      have hcz88_2 : wc.cell? ⟨gb501, 2, none⟩ = some (.slice none 0 0) := bc_ BK501 2
      have hfz88_0 := blk_frozen BK501.out 0
      have hfz88_1 := blk_frozen BK501.out 1
      have hfz88_2 := blk_frozen BK501.out 2
      go_wp2
      refine bodyPost_ret (results_ct rfl _ _ gb501 35 #[.slice Ao62 l0_0.length co62, .slice Ao63 l0_1.length co63, .slice Ao64 l0_2.length co64] (0, 0) _ rfl (by (with_reducible repeat (first | refine blk_drewN ?_ _ | refine blk_drew ?_ | refine blk_alloc ?_ _)); refine blk_put (cs := #[.slice Ao62 l0_0.length co62, .slice Ao63 l0_1.length co63, .slice none 0 0]) ?_ 2 _ rfl; (with_reducible repeat (first | refine blk_drewN ?_ _ | refine blk_drew ?_ | refine blk_alloc ?_ _)); refine blk_put (cs := #[.slice Ao62 l0_0.length co62, .slice none 0 0, .slice none 0 0]) ?_ 1 _ rfl; (with_reducible repeat (first | refine blk_drewN ?_ _ | refine blk_drew ?_ | refine blk_alloc ?_ _)); refine blk_put (cs := #[.slice none 0 0, .slice none 0 0, .slice none 0 0]) ?_ 0 _ rfl; (with_reducible repeat (first | refine blk_drewN ?_ _ | refine blk_drew ?_ | refine blk_alloc ?_ _)); exact BK501.out) Try.underlying35 rfl (by kernel_rfl)) rfl ?_
      exact ⟨_, _, _, by first | rfl | (simp [errW_none, errW_some] <;> rfl) | (simp [*, errW_none, errW_some] <;> rfl), by (with_reducible repeat (first | apply Kd.R_alloc | apply Kd.R_drewN | apply Kd.R_drew)); exact Kd.R_mono (fs3_ HO_500000.out BK501.out) (fun _ hk => hk.1), by (with_reducible repeat (first | apply Kd.R_alloc | apply Kd.R_drewN | apply Kd.R_drew)); exact Kd.R_mono (fs3_ HO_500001.out BK501.out) (fun _ hk => hk.1), by (with_reducible repeat (first | apply Kd.R_alloc | apply Kd.R_drewN | apply Kd.R_drew)); exact Kd.R_mono (fs3_ HO_500002.out BK501.out) (fun _ hk => hk.1), by repeat (first | (with_reducible first | exact HB.out | apply below_alloc | apply pw_below_drewN | apply below_drew1 | refine below_set ?_ GE499.out | refine below_set ?_ GE500.out | refine below_set ?_ GE501.out) | exact HB.out), by repeat (first | (with_reducible first | exact HK.out | apply Kept.alloc | apply Kept.drewN | apply Kept.drew | refine Kept.setCell ?_ (.inr GW499.out) _ | refine Kept.setCell ?_ (.inr GW500.out) _ | refine Kept.setCell ?_ (.inr GW501.out) _) | exact HK.out)⟩
     replace c83 := Bool.eq_false_iff.mpr c83
     subst c83
     rw [if_neg (show ¬ (false = true) by decide)] at H
     by_cases c89 : 0 ≤ a1_1
     rotate_left
     ·rw [if_neg c89] at H
      exact absurd H (by simp)
     rw [if_pos c89] at H
     have c89b0 : decide (0 ≤ a1_1) = true := decide_eq_true c89
     clear c89
     by_cases c90 : a1_1 < (l0_2.length : Int)
     rotate_left
     ·rw [if_neg c90] at H
      exact absurd H (by simp)
     rw [if_pos c90] at H
     have c90b0 : decide (a1_1 < (l0_2.length : Int)) = true := decide_eq_true c90
     clear c90
     obtain ⟨y518, hy518⟩ : ∃ y_ : List (S45), y_ = (([] : List (S45))) := ⟨_, rfl⟩
     replace H : (if a1_1 ≤ (l0_2.length : Int) then ((some (l0_2.take (a1_1 : Int).toNat : List (S45))).bind fun y521 => (if y518.length + y521.length < 8796093022208 then ((some (y518 ++ y521 : List (S45))).bind fun y525 => (if 0 ≤ (wrap64 (a1_1 + 1)) then (if (wrap64 (a1_1 + 1)) ≤ (l0_2.length : Int) then ((some (l0_2.drop ((wrap64 (a1_1 + 1)) : Int).toNat : List (S45))).bind fun y528 => (if y525.length + y528.length < 8796093022208 then ((some (y525 ++ y528 : List (S45))).bind fun y532 => (if a1_0 = 2 then (if 0 ≤ (wrap64 (1 - ((rd_T45 l0_2 a1_1).f0))) then (if (wrap64 (1 - ((rd_T45 l0_2 a1_1).f0))) < (l0_0.length : Int) then ((spec_NextState.f (rd l0_0 (wrap64 (1 - ((rd_T45 l0_2 a1_1).f0)))) ((rd_T45 l0_2 a1_1).f1)).bind fun bt536 => (if (wrap64 (1 - ((rd_T45 l0_2 a1_1).f0))) < (l0_1.length : Int) then (some ((l0_0.set ((wrap64 (1 - ((rd_T45 l0_2 a1_1).f0))) : Int).toNat bt536.1), (l0_1.set ((wrap64 (1 - ((rd_T45 l0_2 a1_1).f0))) : Int).toNat 3), y532, true)) else (none))) else (none)) else (none)) else (some (l0_0, l0_1, y532, true)))) else (none))) else (none)) else (none))) else (none))) else (none)) = some (r1, r2, r3, r4) := by first | (rw [hy518]; with_reducible exact H) | (have H2_ := (Option.bind_some _ _).symm.trans H; rw [hy518]; with_reducible exact H2_) | (have H2_ := (Option.bind_some _ _).symm.trans H; with_reducible exact H2_) | with_reducible exact H | (rw [hy518]; exact H) | exact H
     have Ny518 := Aside0.mk hy518
     clear hy518
     have c91b0 := eq_true (of_decide_eq_true (by first | (with_reducible assumption) | assumption) : 0 ≤ a1_1)
     by_cases c92 : a1_1 ≤ (l0_2.length : Int)
     rotate_left
     ·rw [if_neg c92] at H
      exact absurd H (by simp)
     rw [if_pos c92] at H
     have c92b0 := eq_true c92
     have c92b1 : decide (a1_1 ≤ (l0_2.length : Int)) = true := decide_eq_true c92
     clear c92
     obtain ⟨y521, hy521⟩ : ∃ y_ : List (S45), y_ = (l0_2.take (a1_1 : Int).toNat) := ⟨_, rfl⟩
     replace H : (if y518.length + y521.length < 8796093022208 then ((some (y518 ++ y521 : List (S45))).bind fun y525 => (if 0 ≤ (wrap64 (a1_1 + 1)) then (if (wrap64 (a1_1 + 1)) ≤ (l0_2.length : Int) then ((some (l0_2.drop ((wrap64 (a1_1 + 1)) : Int).toNat : List (S45))).bind fun y528 => (if y525.length + y528.length < 8796093022208 then ((some (y525 ++ y528 : List (S45))).bind fun y532 => (if a1_0 = 2 then (if 0 ≤ (wrap64 (1 - ((rd_T45 l0_2 a1_1).f0))) then (if (wrap64 (1 - ((rd_T45 l0_2 a1_1).f0))) < (l0_0.length : Int) then ((spec_NextState.f (rd l0_0 (wrap64 (1 - ((rd_T45 l0_2 a1_1).f0)))) ((rd_T45 l0_2 a1_1).f1)).bind fun bt536 => (if (wrap64 (1 - ((rd_T45 l0_2 a1_1).f0))) < (l0_1.length : Int) then (some ((l0_0.set ((wrap64 (1 - ((rd_T45 l0_2 a1_1).f0))) : Int).toNat bt536.1), (l0_1.set ((wrap64 (1 - ((rd_T45 l0_2 a1_1).f0))) : Int).toNat 3), y532, true)) else (none))) else (none)) else (none)) else (some (l0_0, l0_1, y532, true)))) else (none))) else (none)) else (none))) else (none)) = some (r1, r2, r3, r4) := by first | (rw [hy521]; with_reducible exact H) | (have H2_ := (Option.bind_some _ _).symm.trans H; rw [hy521]; with_reducible exact H2_) | (have H2_ := (Option.bind_some _ _).symm.trans H; with_reducible exact H2_) | with_reducible exact H | (rw [hy521]; exact H) | exact H
     have Ny521 := Aside0.mk hy521
     clear hy521
     by_cases c93 : y518.length + y521.length < 8796093022208
     rotate_left
     ·rw [if_neg c93] at H
      exact absurd H (by simp)
     rw [if_pos c93] at H
     have LMc93 := Aside0.mk c93
     clear c93
     obtain ⟨y525, hy525⟩ : ∃ y_ : List (S45), y_ = (y518 ++ y521) := ⟨_, rfl⟩
     replace H : (if 0 ≤ (wrap64 (a1_1 + 1)) then (if (wrap64 (a1_1 + 1)) ≤ (l0_2.length : Int) then ((some (l0_2.drop ((wrap64 (a1_1 + 1)) : Int).toNat : List (S45))).bind fun y528 => (if y525.length + y528.length < 8796093022208 then ((some (y525 ++ y528 : List (S45))).bind fun y532 => (if a1_0 = 2 then (if 0 ≤ (wrap64 (1 - ((rd_T45 l0_2 a1_1).f0))) then (if (wrap64 (1 - ((rd_T45 l0_2 a1_1).f0))) < (l0_0.length : Int) then ((spec_NextState.f (rd l0_0 (wrap64 (1 - ((rd_T45 l0_2 a1_1).f0)))) ((rd_T45 l0_2 a1_1).f1)).bind fun bt536 => (if (wrap64 (1 - ((rd_T45 l0_2 a1_1).f0))) < (l0_1.length : Int) then (some ((l0_0.set ((wrap64 (1 - ((rd_T45 l0_2 a1_1).f0))) : Int).toNat bt536.1), (l0_1.set ((wrap64 (1 - ((rd_T45 l0_2 a1_1).f0))) : Int).toNat 3), y532, true)) else (none))) else (none)) else (none)) else (some (l0_0, l0_1, y532, true)))) else (none))) else (none)) else (none)) = some (r1, r2, r3, r4) := by first | (rw [hy525]; with_reducible exact H) | (have H2_ := (Option.bind_some _ _).symm.trans H; rw [hy525]; with_reducible exact H2_) | (have H2_ := (Option.bind_some _ _).symm.trans H; with_reducible exact H2_) | with_reducible exact H | (rw [hy525]; exact H) | exact H
     have Ny525 := Aside0.mk hy525
     clear hy525
     obtain ⟨ji94, hji94⟩ : ∃ j_ : Int, (wrap64 (a1_1 + 1)) = j_ := ⟨_, rfl⟩
     replace H : (if 0 ≤ (ji94) then (if (ji94) ≤ (l0_2.length : Int) then ((some (l0_2.drop ((ji94) : Int).toNat : List (S45))).bind fun y528 => (if y525.length + y528.length < 8796093022208 then ((some (y525 ++ y528 : List (S45))).bind fun y532 => (if a1_0 = 2 then (if 0 ≤ (wrap64 (1 - ((rd_T45 l0_2 a1_1).f0))) then (if (wrap64 (1 - ((rd_T45 l0_2 a1_1).f0))) < (l0_0.length : Int) then ((spec_NextState.f (rd l0_0 (wrap64 (1 - ((rd_T45 l0_2 a1_1).f0)))) ((rd_T45 l0_2 a1_1).f1)).bind fun bt536 => (if (wrap64 (1 - ((rd_T45 l0_2 a1_1).f0))) < (l0_1.length : Int) then (some ((l0_0.set ((wrap64 (1 - ((rd_T45 l0_2 a1_1).f0))) : Int).toNat bt536.1), (l0_1.set ((wrap64 (1 - ((rd_T45 l0_2 a1_1).f0))) : Int).toNat 3), y532, true)) else (none))) else (none)) else (none)) else (some (l0_0, l0_1, y532, true)))) else (none))) else (none)) else (none)) = some (r1, r2, r3, r4) := by first | (rw [hji94] at H; exact H) | (simp only [hji94] at H ⊢; exact H)
     have hji94w : (IntKind.i64.wrap (a1_1 + 1)) = ji94 := (i64_w _).trans hji94
     by_cases c95 : 0 ≤ (ji94)
     rotate_left
     ·rw [if_neg c95] at H
      exact absurd H (by simp)
     rw [if_pos c95] at H
     have c95b0 := eq_true c95
     have c95b1 : decide (0 ≤ (ji94)) = true := decide_eq_true c95
     clear c95
     by_cases c96 : (ji94) ≤ (l0_2.length : Int)
     rotate_left
     ·rw [if_neg c96] at H
      exact absurd H (by simp)
     rw [if_pos c96] at H
     have c96b0 := eq_true c96
     have c96b1 : decide ((ji94) ≤ (l0_2.length : Int)) = true := decide_eq_true c96
     clear c96
     obtain ⟨y528, hy528⟩ : ∃ y_ : List (S45), y_ = (l0_2.drop ((ji94) : Int).toNat) := ⟨_, rfl⟩
     replace H : (if y525.length + y528.length < 8796093022208 then ((some (y525 ++ y528 : List (S45))).bind fun y532 => (if a1_0 = 2 then (if 0 ≤ (wrap64 (1 - ((rd_T45 l0_2 a1_1).f0))) then (if (wrap64 (1 - ((rd_T45 l0_2 a1_1).f0))) < (l0_0.length : Int) then ((spec_NextState.f (rd l0_0 (wrap64 (1 - ((rd_T45 l0_2 a1_1).f0)))) ((rd_T45 l0_2 a1_1).f1)).bind fun bt536 => (if (wrap64 (1 - ((rd_T45 l0_2 a1_1).f0))) < (l0_1.length : Int) then (some ((l0_0.set ((wrap64 (1 - ((rd_T45 l0_2 a1_1).f0))) : Int).toNat bt536.1), (l0_1.set ((wrap64 (1 - ((rd_T45 l0_2 a1_1).f0))) : Int).toNat 3), y532, true)) else (none))) else (none)) else (none)) else (some (l0_0, l0_1, y532, true)))) else (none)) = some (r1, r2, r3, r4) := by first | (rw [hy528]; with_reducible exact H) | (have H2_ := (Option.bind_some _ _).symm.trans H; rw [hy528]; with_reducible exact H2_) | (have H2_ := (Option.bind_some _ _).symm.trans H; with_reducible exact H2_) | with_reducible exact H | (rw [hy528]; exact H) | exact H
     have Ny528 := Aside0.mk hy528
     clear hy528
     by_cases c97 : y525.length + y528.length < 8796093022208
     rotate_left
     ·rw [if_neg c97] at H
      exact absurd H (by simp)
     rw [if_pos c97] at H
     have LMc97 := Aside0.mk c97
     clear c97
     obtain ⟨y532, hy532⟩ : ∃ y_ : List (S45), y_ = (y525 ++ y528) := ⟨_, rfl⟩
     replace H : (if a1_0 = 2 then (if 0 ≤ (wrap64 (1 - ((rd_T45 l0_2 a1_1).f0))) then (if (wrap64 (1 - ((rd_T45 l0_2 a1_1).f0))) < (l0_0.length : Int) then ((spec_NextState.f (rd l0_0 (wrap64 (1 - ((rd_T45 l0_2 a1_1).f0)))) ((rd_T45 l0_2 a1_1).f1)).bind fun bt536 => (if (wrap64 (1 - ((rd_T45 l0_2 a1_1).f0))) < (l0_1.length : Int) then (some ((l0_0.set ((wrap64 (1 - ((rd_T45 l0_2 a1_1).f0))) : Int).toNat bt536.1), (l0_1.set ((wrap64 (1 - ((rd_T45 l0_2 a1_1).f0))) : Int).toNat 3), y532, true)) else (none))) else (none)) else (none)) else (some (l0_0, l0_1, y532, true))) = some (r1, r2, r3, r4) := by first | (rw [hy532]; with_reducible exact H) | (have H2_ := (Option.bind_some _ _).symm.trans H; rw [hy532]; with_reducible exact H2_) | (have H2_ := (Option.bind_some _ _).symm.trans H; with_reducible exact H2_) | with_reducible exact H | (rw [hy532]; exact H) | exact H
     have Ny532 := Aside0.mk hy532
     clear hy532
     by_cases c98 : a1_0 = 2
     rotate_left
     ·rw [if_neg c98] at H
      have c98b0 : (a1_0 == 2) = false := beq_eq_false_iff_ne.mpr c98
      have c98b1 : (a1_0 != 2) = true := bne_iff_ne.mpr c98
      simp only [Option.some.injEq, Prod.mk.injEq] at H
      obtain ⟨rfl, rfl, rfl, rfl⟩ := H
      have hnb140 := NB499_500.out
      have hnc140 := NB500_499.out
      have hnb141 := NB499_501.out
      have hnc141 := NB501_499.out
      have hcz142_0 : wc.cell? ⟨gb499, 0, none⟩ = some (.slice Ao62 l0_0.length co62) := bc_ BK499 0
      have hcz142_1 : wc.cell? ⟨gb499, 1, none⟩ = some (.slice Ao63 l0_1.length co63) := bc_ BK499 1
      have hcz142_2 : wc.cell? ⟨gb499, 2, none⟩ = some (.slice Ao64 l0_2.length co64) := bc_ BK499 2
      have hfz142_0 := blk_frozen BK499.out 0
      have hfz142_1 := blk_frozen BK499.out 1
      have hfz142_2 := blk_frozen BK499.out 2
      have hnb143 := NB500_501.out
      have hnc143 := NB501_500.out
      have hcz144_0 : wc.cell? ⟨gb500, 0, none⟩ = some (.int .i64 a1_0) := bc_ BK500 0
      have hcz144_1 : wc.cell? ⟨gb500, 1, none⟩ = some (.int .i64 a1_1) := bc_ BK500 1
      have hfz144_0 := blk_frozen BK500.out 0
      have hfz144_1 := blk_frozen BK500.out 1
      have p516 : 0 ≤ (a1_1 : Int) := of_decide_eq_true (by first | (with_reducible assumption) | assumption)
      have q516 : a1_1 < (l0_2.length : Int) := of_decide_eq_true (by first | (with_reducible assumption) | assumption)
      obtain ⟨ad516, e516, hx516_0, hx516_1⟩ := at_T45 (Kd.R_reads' HO_500002.out).2.2 a1_1 p516 q516
      cases e516
      replace p516 := eq_true p516
      replace q516 := eq_true q516
      go_wp2_with (first | ((with_reducible refine gate_dst (N := 6) rfl ?_); (try (refine gate_guard (by rfl) ?_; dsimp only)); refine box_event ?hg (N := 6) ?hd (cs := #[.int .i64 0, .bool false]) (t := 45) ?hr ?_; (case hd => rfl); (case hg => rfl); (case hr => first | (go_simp; done) | (go_simp; rfl)); intro gb517 hg w145 hbox hb; have BK517 := Aside0.mk (hbox); have GW517 := Aside0.mk ((by rw [hg]; exact (by first | exact HK.out.1 | exact (show Kept w _ (fun k_ => P0_0_ k_ ∨ P0_1_ k_ ∨ P0_2_ k_) from by repeat (first | (with_reducible first | exact HK.out | apply Kept.alloc | apply Kept.drewN | apply Kept.drew | refine Kept.setCell ?_ (.inr GW499.out) _ | refine Kept.setCell ?_ (.inr GW500.out) _ | refine Kept.setCell ?_ (.inr GW501.out) _) | exact HK.out)).1) : w.heap.size ≤ gb517)); have GE517 := gw_ hg HB; have NB499_517 := nl_ hg BK499; have NB517_499 := ng_ hg BK499; have NB500_517 := nl_ hg BK500; have NB517_500 := ng_ hg BK500; have NB501_517 := nl_ hg BK501; have NB517_501 := ng_ hg BK501; replace HO_500000 := rb_ HO_500000 hb; replace HO_500001 := rb_ HO_500001 hb; replace HO_500002 := Aside0.mk (Kd.R_below (Kd.R_elderB (ra HO_500002.out) gb517 (Nat.le_of_eq hg.symm)) hb); replace BK499 := bb_ BK499 hb; replace BK500 := bb_ BK500 hb; replace BK501 := bb_ BK501 hb; replace HK := Aside0.mk (Kept.below (S := (fun k_ => P0_0_ k_ ∨ P0_1_ k_ ∨ P0_2_ k_)) (by repeat (first | (with_reducible first | exact HK.out | apply Kept.alloc | apply Kept.drewN | apply Kept.drew | refine Kept.setCell ?_ (.inr GW499.out) _ | refine Kept.setCell ?_ (.inr GW500.out) _ | refine Kept.setCell ?_ (.inr GW501.out) _) | exact HK.out)) hb); replace HB := bst_ HB hb; clear hb hbox hg; have hnb146 := NB517_499.out; have hnc146 := NB499_517.out; have hnb147 := NB517_500.out; have hnc147 := NB500_517.out; have hnb148 := NB517_501.out; have hnc148 := NB501_517.out; have hcz149_0 : w145.cell? ⟨gb517, 0, none⟩ = some (.int .i64 0) := bc_ BK517 0; have hcz149_1 : w145.cell? ⟨gb517, 1, none⟩ = some (.bool false) := bc_ BK517 1; have hfz149_0 := blk_frozen BK517.out 0; have hfz149_1 := blk_frozen BK517.out 1) | ((with_reducible refine gate_dst (N := 71) rfl ?_); (try (refine gate_guard (by rfl) ?_; dsimp only)); refine Kd.R_lit k45 _ 45 ?hg (N := 71) ?hd (xs := ([] : List (S45))) (inner := []) (ok := fun _ => True) (okp := fun _ => True) ?hr ?hp (fun _ hk => hk) trivial (Below.refl _ _) (Nat.le_refl _) (by simp) ?_; (case hd => rfl); (case hg => rfl); (case hr => first | (go_simp; done) | (go_simp; rfl)); (case hp => exact (Reps.none _ _)); intro v519 w150 ho151 hb hg_ hnew_; clear hg_ hnew_; (first | rw [← Ny518.out] at ho151 | (simp only [Int.reduceToNat] at ho151; rw [← Ny518.out] at ho151)); have HO520 := Aside0.mk (Kd.R_lower (Kd.R_newB (Kd.R_new' (Kd.R_newM (M := fun k_ => ((P0_0_ k_ ∨ P0_1_ k_ ∨ P0_2_ k_) ∨ w.heap.size ≤ k_)) ho151 (show Kept w _ (fun k_ => P0_0_ k_ ∨ P0_1_ k_ ∨ P0_2_ k_) from by repeat (first | (with_reducible first | exact HK.out | apply Kept.alloc | apply Kept.drewN | apply Kept.drew | refine Kept.setCell ?_ (.inr GW499.out) _ | refine Kept.setCell ?_ (.inr GW500.out) _ | refine Kept.setCell ?_ (.inr GW501.out) _ | refine Kept.setCell ?_ (.inr GW517.out) _) | exact HK.out)).1 (fun k_ h_ => .inr h_)) (Kd.R_lt (ra (Kd.R_mono (Kd.R_far (p := ⟨gb517, 1, none⟩) (Kd.R_far (p := ⟨gb517, 0, none⟩) (Kd.R_mono HO_500002.out (fun k_ hk => (⟨hk, hk.2⟩ : _ ∧ k_ ≠ gb517))) (fun _ hk => hk.2) (.int .i64 ((rd_T45 l0_2 a1_1).f0))) (fun _ hk => hk.2) (.bool ((rd_T45 l0_2 a1_1).f1))) (fun _ h_ => h_.1))))) (g := gb517) (o := .cells #[.int .i64 ((rd_T45 l0_2 a1_1).f0), .bool ((rd_T45 l0_2 a1_1).f1)] 45 (0, 0)) (by (with_reducible repeat (first | refine blk_drewN ?_ _ | refine blk_drew ?_ | refine blk_alloc ?_ _)); refine blk_put (cs := #[.int .i64 ((rd_T45 l0_2 a1_1).f0), .bool false]) ?_ 1 _ rfl; (with_reducible repeat (first | refine blk_drewN ?_ _ | refine blk_drew ?_ | refine blk_alloc ?_ _)); refine blk_put (cs := #[.int .i64 0, .bool false]) ?_ 0 _ rfl; (with_reducible repeat (first | refine blk_drewN ?_ _ | refine blk_drew ?_ | refine blk_alloc ?_ _)); exact BK517.out)) (below_size (hB HB))); replace HO_500000 := Aside0.mk (Kd.R_below (ra (Kd.R_mono (Kd.R_far (p := ⟨gb517, 1, none⟩) (Kd.R_far (p := ⟨gb517, 0, none⟩) (Kd.R_types HO_500000.out BK517.out (by decide)) (fun _ hk => hk.2) (.int .i64 ((rd_T45 l0_2 a1_1).f0))) (fun _ hk => hk.2) (.bool ((rd_T45 l0_2 a1_1).f1))) (fun _ h_ => h_.1))) hb); replace HO_500001 := Aside0.mk (Kd.R_below (ra (Kd.R_mono (Kd.R_far (p := ⟨gb517, 1, none⟩) (Kd.R_far (p := ⟨gb517, 0, none⟩) (Kd.R_types HO_500001.out BK517.out (by decide)) (fun _ hk => hk.2) (.int .i64 ((rd_T45 l0_2 a1_1).f0))) (fun _ hk => hk.2) (.bool ((rd_T45 l0_2 a1_1).f1))) (fun _ h_ => h_.1))) hb); replace HO_500002 := Aside0.mk (Kd.R_elder' (ra (Kd.R_mono (Kd.R_far (p := ⟨gb517, 1, none⟩) (Kd.R_far (p := ⟨gb517, 0, none⟩) (Kd.R_mono HO_500002.out (fun k_ hk => (⟨hk, hk.2⟩ : _ ∧ k_ ≠ gb517))) (fun _ hk => hk.2) (.int .i64 ((rd_T45 l0_2 a1_1).f0))) (fun _ hk => hk.2) (.bool ((rd_T45 l0_2 a1_1).f1))) (fun _ h_ => h_.1))) (Kd.R_base ho151) hb); replace BK499 := Aside0.mk (blk_below (bx BK499) hb); replace BK500 := Aside0.mk (blk_below (bx BK500) hb); replace BK501 := Aside0.mk (blk_below (bx BK501) hb); replace BK517 := Aside0.mk (blk_below (g := gb517) (o := .cells #[.int .i64 ((rd_T45 l0_2 a1_1).f0), .bool ((rd_T45 l0_2 a1_1).f1)] 45 (0, 0)) (by (with_reducible repeat (first | refine blk_drewN ?_ _ | refine blk_drew ?_ | refine blk_alloc ?_ _)); refine blk_put (cs := #[.int .i64 ((rd_T45 l0_2 a1_1).f0), .bool false]) ?_ 1 _ rfl; (with_reducible repeat (first | refine blk_drewN ?_ _ | refine blk_drew ?_ | refine blk_alloc ?_ _)); refine blk_put (cs := #[.int .i64 0, .bool false]) ?_ 0 _ rfl; (with_reducible repeat (first | refine blk_drewN ?_ _ | refine blk_drew ?_ | refine blk_alloc ?_ _)); exact BK517.out) hb); replace HK := Aside0.mk (Kept.below (S := (fun k_ => P0_0_ k_ ∨ P0_1_ k_ ∨ P0_2_ k_)) (by repeat (first | (with_reducible first | exact HK.out | apply Kept.alloc | apply Kept.drewN | apply Kept.drew | refine Kept.setCell ?_ (.inr GW499.out) _ | refine Kept.setCell ?_ (.inr GW500.out) _ | refine Kept.setCell ?_ (.inr GW501.out) _ | refine Kept.setCell ?_ (.inr GW517.out) _) | exact HK.out)) hb); replace HB := bst_ HB hb; clear hb ho151; have hcz152_0 : w150.cell? ⟨gb499, 0, none⟩ = some (.slice Ao62 l0_0.length co62) := bc_ BK499 0; have hcz152_1 : w150.cell? ⟨gb499, 1, none⟩ = some (.slice Ao63 l0_1.length co63) := bc_ BK499 1; have hcz152_2 : w150.cell? ⟨gb499, 2, none⟩ = some (.slice (some ad516) l0_2.length co64) := bc_ BK499 2; have hfz152_0 := blk_frozen BK499.out 0; have hfz152_1 := blk_frozen BK499.out 1; have hfz152_2 := blk_frozen BK499.out 2; have hcz153_0 : w150.cell? ⟨gb500, 0, none⟩ = some (.int .i64 a1_0) := bc_ BK500 0; have hcz153_1 : w150.cell? ⟨gb500, 1, none⟩ = some (.int .i64 a1_1) := bc_ BK500 1; have hfz153_0 := blk_frozen BK500.out 0; have hfz153_1 := blk_frozen BK500.out 1; have q154 : (a1_1 : Int) ≤ ((l0_2.length : Int) : Int) := of_decide_eq_true (by first | (with_reducible assumption) | assumption); obtain ⟨i0154, hi0154, _, hsz154, _⟩ := info_parts info45; have hroom154 : l0_2.length ≤ co64 := (Kd.R_reads' HO_500002.out).2.1; have hC154 : Kd.C k45 _ (some ad516) l0_2.length l0_2 := (Kd.R_reads' HO_500002.out).2.2; have hcut154 := cut_to (P := Try.prog) 33 45 .i64 Try.underlying33 hi0154 (some ad516) l0_2.length co64 a1_1 (of_decide_eq_true (by first | (with_reducible assumption) | assumption)) q154 hroom154; have hr154 := Kd.C_take (m := (a1_1 : Int).toNat) hC154 (by omega); have hy154 : y521.length = (a1_1 : Int).toNat := (by rw [Ny521.out, List.length_take]; omega); rw [← Ny521.out] at hr154; rw [← hy154] at hcut154; have HR524 := Aside0.mk hr154; have HC524 := Aside0.mk (show y521.length ≤ co64 from by omega); clear hr154 hC154 hroom154 hi0154 hsz154; have KY154 := Aside0.mk hy154; clear hy154; have KL154 := Aside0.mk (show (a1_1 : Int).toNat ≤ l0_2.length from by omega); replace q154 := eq_true q154) | ((with_reducible refine gate_builtin (b := .append) (xs := #[.tmp 71, .tmp 76]) rfl ?_); (try (refine gate_guard (by rfl) ?_; dsimp only)); at_builtin; refine Kd.R_append_rows k45 (w0 := w0) w0.heap.size rfl (.tmp 71) (.tmp 76) 33 45 (.agg #[(.int .i64 0), (.bool false)]) 16 rfl Try.underlying33 info45 rfl (by decide) (by omega) v519 y518 y521 _ _ _ (fun k_ => ((P0_0_ k_ ∨ P0_1_ k_ ∨ P0_2_ k_) ∨ w.heap.size ≤ k_) ∧ some k_ ≠ (.slice (some ad516) l0_2.length co64 : Value).ownBlock ∧ k_ ≠ gb517) (fun _ => False) rfl rfl ?aO ?aR (fun _ _ h => h) (fun _ h => h.elim) ?aF ?aB ?aS ?aL ?_; (case aR => repeat (first | exact (by repeat (first | (with_reducible exact HR524.out) | (with_reducible refine Kd.C_alloc ?_ _) | (with_reducible refine Kd.C_drewN ?_ _) | (with_reducible refine Kd.C_drew ?_) | exact HR524.out)) | (with_reducible refine Kd.C_alloc ?_ _) | (with_reducible refine Kd.C_drewN ?_ _) | (with_reducible refine Kd.C_drew ?_))); (case aB => exact (hB HB)); (case aF => exact (fun k_ hk => ⟨(.inr (Nat.le_trans (by first | exact HK.out.1 | exact (show Kept w _ (fun k_ => P0_0_ k_ ∨ P0_1_ k_ ∨ P0_2_ k_) from by repeat (first | (with_reducible first | exact HK.out | apply Kept.alloc | apply Kept.drewN | apply Kept.drew | refine Kept.setCell ?_ (.inr GW499.out) _ | refine Kept.setCell ?_ (.inr GW500.out) _ | refine Kept.setCell ?_ (.inr GW501.out) _ | refine Kept.setCell ?_ (.inr GW517.out) _) | exact HK.out)).1) hk)), Kd.fresh' (rl_ HO_500002) k_ hk, Kd.freshB (g := gb517) (o := .cells #[.int .i64 ((rd_T45 l0_2 a1_1).f0), .bool ((rd_T45 l0_2 a1_1).f1)] 45 (0, 0)) (ba BK517.out) k_ hk⟩)); (case aO => exact (rm_ HO520 (fun _ hk => ⟨hk.1.1.1, ⟨hk.1.2, hk.2⟩⟩)).out); (case aS => exact (below_size (hB HB))); (case aL => have := LMc93.out; omega); intro v526 w155 ho hb hg hat; rw [← Ny525.out] at ho; have HO527 := Aside0.mk (ho); replace HO_500000 := Aside0.mk (Kd.R_over' (ra HO_500000.out) (Kd.R_typed (ra HO520.out)) (by decide) hg); replace HO_500001 := Aside0.mk (Kd.R_over' (ra HO_500001.out) (Kd.R_typed (ra HO520.out)) (by decide) hg); replace BK499 := Aside0.mk (blk_grown (g := gb499) (o := .cells #[.slice Ao62 l0_0.length co62, .slice Ao63 l0_1.length co63, .slice (some ad516) l0_2.length co64] 35 (0, 0)) (ba BK499.out) hg (Kd.R_ne HO520.out BK499.out (by decide))); replace BK500 := Aside0.mk (blk_grown (g := gb500) (o := .cells #[.int .i64 a1_0, .int .i64 a1_1] 37 (0, 0)) (ba BK500.out) hg (Kd.R_ne HO520.out BK500.out (by decide))); replace BK501 := Aside0.mk (blk_grown (g := gb501) (o := .cells #[.slice none 0 0, .slice none 0 0, .slice none 0 0] 35 (0, 0)) (ba BK501.out) hg (Kd.R_ne HO520.out BK501.out (by decide))); replace BK517 := Aside0.mk (blk_grown (g := gb517) (o := .cells #[.int .i64 ((rd_T45 l0_2 a1_1).f0), .bool ((rd_T45 l0_2 a1_1).f1)] 45 (0, 0)) (ba BK517.out) hg (Kd.R_away HO520.out (fun _ hk => hk.2))); replace HB := Aside0.mk (hb); replace HK := Aside0.mk (Kept.of_grown (S := (fun k_ => P0_0_ k_ ∨ P0_1_ k_ ∨ P0_2_ k_)) hg (by repeat (first | (with_reducible first | exact HK.out | apply Kept.alloc | apply Kept.drewN | apply Kept.drew | refine Kept.setCell ?_ (.inr GW499.out) _ | refine Kept.setCell ?_ (.inr GW500.out) _ | refine Kept.setCell ?_ (.inr GW501.out) _ | refine Kept.setCell ?_ (.inr GW517.out) _) | exact HK.out)) (fun k_ e_ => (HO520.out.1 k_ e_).1.1.1)); replace HR524 := Aside0.mk ((show Kd.C k45 w155 (some ad516) y521.length y521 from by rw [Ny521.out]; exact Kd.C_take (m := (a1_1 : Int).toNat) ((Kd.R_reads' (Kd.R_after (ok := (fun k_ => ((P0_0_ k_ ∨ P0_1_ k_ ∨ P0_2_ k_) ∨ w.heap.size ≤ k_) ∧ k_ ≠ gb517)) (ra HO_500002.out) hg hat)).2.2) KL154.out)); replace HO_500002 := Aside0.mk (Kd.R_after (ok := (fun k_ => ((P0_0_ k_ ∨ P0_1_ k_ ∨ P0_2_ k_) ∨ w.heap.size ≤ k_) ∧ k_ ≠ gb517)) (ra HO_500002.out) hg hat); clear HO520; clear ho hb hg hat; have hcz156_0 : w155.cell? ⟨gb499, 0, none⟩ = some (.slice Ao62 l0_0.length co62) := bc_ BK499 0; have hcz156_1 : w155.cell? ⟨gb499, 1, none⟩ = some (.slice Ao63 l0_1.length co63) := bc_ BK499 1; have hcz156_2 : w155.cell? ⟨gb499, 2, none⟩ = some (.slice (some ad516) l0_2.length co64) := bc_ BK499 2; have hfz156_0 := blk_frozen BK499.out 0; have hfz156_1 := blk_frozen BK499.out 1; have hfz156_2 := blk_frozen BK499.out 2; have hcz157_0 : w155.cell? ⟨gb500, 0, none⟩ = some (.int .i64 a1_0) := bc_ BK500 0; have hcz157_1 : w155.cell? ⟨gb500, 1, none⟩ = some (.int .i64 a1_1) := bc_ BK500 1; have hfz157_0 := blk_frozen BK500.out 0; have hfz157_1 := blk_frozen BK500.out 1; have q158 : ((ji94) : Int) ≤ ((l0_2.length : Int) : Int) := of_decide_eq_true (by first | (with_reducible assumption) | assumption); obtain ⟨i0158, hi0158, _, hsz158, _⟩ := info_parts info45; have hroom158 : l0_2.length ≤ co64 := (Kd.R_reads' HO_500002.out).2.1; have hC158 : Kd.C k45 _ (some ad516) l0_2.length l0_2 := (Kd.R_reads' HO_500002.out).2.2; have q0158 : (0 : Int) ≤ ((ji94) : Int) := of_decide_eq_true (by first | (with_reducible assumption) | assumption); have hcut158 := cut_from (P := Try.prog) 33 45 .i64 Try.underlying33 hi0158 2 hsz158 (some ad516) l0_2.length co64 (ji94) q0158 q158; have hr158 := Kd.C_drop (m := ((ji94) : Int).toNat) (c := co64) hC158 (by omega) hroom158; obtain ⟨A158, hA158⟩ : ∃ A1, A1 = (if co64 = ((ji94) : Int).toNat then (some ad516) else ((some ad516) : Option Addr).map (·.add (((ji94) : Int).toNat * 2))) := ⟨_, rfl⟩; obtain ⟨c158, hc158⟩ : ∃ c1, c1 = co64 - ((ji94) : Int).toNat := ⟨_, rfl⟩; have hy158 : y528.length = l0_2.length - ((ji94) : Int).toNat := (by rw [Ny528.out, List.length_drop] <;> omega); rw [show (l0_2).drop ((ji94) : Int).toNat = y528 from Ny528.out.symm] at hr158; replace hr158 : Kd.C k45 _ A158 y528.length y528 := (by rw [hA158]; exact hr158); rw [← hy158, ← hA158, ← hc158] at hcut158; have HR531 := Aside0.mk hr158; have HC531 := Aside0.mk (show y528.length ≤ c158 from by rw [hy158, hc158]; exact Nat.sub_le_sub_right hroom158 _); clear hr158 hC158 hroom158 hi0158 hsz158 hc158; have KY158 := Aside0.mk hy158; have KA158 := Aside0.mk hA158; clear hy158 hA158; have KL158 := Aside0.mk (show ((ji94) : Int).toNat ≤ l0_2.length from by omega); replace q158 := eq_true q158) | ((with_reducible refine gate_builtin (b := .append) (xs := #[.tmp 78, .tmp 84]) rfl ?_); (try (refine gate_guard (by rfl) ?_; dsimp only)); at_builtin; refine Kd.R_append_rows k45 (w0 := w0) w0.heap.size rfl (.tmp 78) (.tmp 84) 33 45 (.agg #[(.int .i64 0), (.bool false)]) 16 rfl Try.underlying33 info45 rfl (by decide) (by omega) v526 y525 y528 _ _ _ (fun k_ => ((P0_0_ k_ ∨ P0_1_ k_ ∨ P0_2_ k_) ∨ w.heap.size ≤ k_) ∧ some k_ ≠ (.slice (some ad516) l0_2.length co64 : Value).ownBlock ∧ k_ ≠ gb517) (fun _ => False) rfl rfl ?aO ?aR (fun _ _ h => h) (fun _ h => h.elim) ?aF ?aB ?aS ?aL ?_; (case aR => repeat (first | exact (by repeat (first | (with_reducible exact HR531.out) | (with_reducible refine Kd.C_alloc ?_ _) | (with_reducible refine Kd.C_drewN ?_ _) | (with_reducible refine Kd.C_drew ?_) | exact HR531.out)) | (with_reducible refine Kd.C_alloc ?_ _) | (with_reducible refine Kd.C_drewN ?_ _) | (with_reducible refine Kd.C_drew ?_))); (case aB => exact (hB HB)); (case aF => exact (fun k_ hk => ⟨(.inr (Nat.le_trans (by first | exact HK.out.1 | exact (show Kept w _ (fun k_ => P0_0_ k_ ∨ P0_1_ k_ ∨ P0_2_ k_) from by repeat (first | (with_reducible first | exact HK.out | apply Kept.alloc | apply Kept.drewN | apply Kept.drew | refine Kept.setCell ?_ (.inr GW499.out) _ | refine Kept.setCell ?_ (.inr GW500.out) _ | refine Kept.setCell ?_ (.inr GW501.out) _ | refine Kept.setCell ?_ (.inr GW517.out) _) | exact HK.out)).1) hk)), Kd.fresh' (rl_ HO_500002) k_ hk, Kd.freshB (g := gb517) (o := .cells #[.int .i64 ((rd_T45 l0_2 a1_1).f0), .bool ((rd_T45 l0_2 a1_1).f1)] 45 (0, 0)) (ba BK517.out) k_ hk⟩)); (case aO => exact (ra HO527.out)); (case aS => exact (below_size (hB HB))); (case aL => have := LMc97.out; omega); intro v533 w159 ho hb hg hat; rw [← Ny532.out] at ho; have HO534 := Aside0.mk (ho); replace HO_500000 := Aside0.mk (Kd.R_over' (ra HO_500000.out) (Kd.R_typed (ra HO527.out)) (by decide) hg); replace HO_500001 := Aside0.mk (Kd.R_over' (ra HO_500001.out) (Kd.R_typed (ra HO527.out)) (by decide) hg); replace BK499 := Aside0.mk (blk_grown (g := gb499) (o := .cells #[.slice Ao62 l0_0.length co62, .slice Ao63 l0_1.length co63, .slice (some ad516) l0_2.length co64] 35 (0, 0)) (ba BK499.out) hg (Kd.R_ne HO527.out BK499.out (by decide))); replace BK500 := Aside0.mk (blk_grown (g := gb500) (o := .cells #[.int .i64 a1_0, .int .i64 a1_1] 37 (0, 0)) (ba BK500.out) hg (Kd.R_ne HO527.out BK500.out (by decide))); replace BK501 := Aside0.mk (blk_grown (g := gb501) (o := .cells #[.slice none 0 0, .slice none 0 0, .slice none 0 0] 35 (0, 0)) (ba BK501.out) hg (Kd.R_ne HO527.out BK501.out (by decide))); replace BK517 := Aside0.mk (blk_grown (g := gb517) (o := .cells #[.int .i64 ((rd_T45 l0_2 a1_1).f0), .bool ((rd_T45 l0_2 a1_1).f1)] 45 (0, 0)) (ba BK517.out) hg (Kd.R_away HO527.out (fun _ hk => hk.2.2))); replace HB := Aside0.mk (hb); replace HK := Aside0.mk (Kept.of_grown (S := (fun k_ => P0_0_ k_ ∨ P0_1_ k_ ∨ P0_2_ k_)) hg (by repeat (first | (with_reducible first | exact HK.out | apply Kept.alloc | apply Kept.drewN | apply Kept.drew | refine Kept.setCell ?_ (.inr GW499.out) _ | refine Kept.setCell ?_ (.inr GW500.out) _ | refine Kept.setCell ?_ (.inr GW501.out) _ | refine Kept.setCell ?_ (.inr GW517.out) _) | exact HK.out)) (fun k_ e_ => (HO527.out.1 k_ e_).1)); replace HR524 := Aside0.mk ((show Kd.C k45 w159 (some ad516) y521.length y521 from by rw [Ny521.out]; exact Kd.C_take (m := (a1_1 : Int).toNat) ((Kd.R_reads' (Kd.R_after (ok := (fun k_ => ((P0_0_ k_ ∨ P0_1_ k_ ∨ P0_2_ k_) ∨ w.heap.size ≤ k_) ∧ k_ ≠ gb517)) (ra HO_500002.out) hg hat)).2.2) KL154.out)); replace HR531 := Aside0.mk ((show Kd.C k45 w159 A158 y528.length y528 from by rw [Ny528.out, KA158.out]; exact Kd.C_drop (m := ((ji94) : Int).toNat) (c := co64) ((Kd.R_reads' (Kd.R_after (ok := (fun k_ => ((P0_0_ k_ ∨ P0_1_ k_ ∨ P0_2_ k_) ∨ w.heap.size ≤ k_) ∧ k_ ≠ gb517)) (ra HO_500002.out) hg hat)).2.2) KL158.out ((Kd.R_reads' (Kd.R_after (ok := (fun k_ => ((P0_0_ k_ ∨ P0_1_ k_ ∨ P0_2_ k_) ∨ w.heap.size ≤ k_) ∧ k_ ≠ gb517)) (ra HO_500002.out) hg hat)).2.1))); replace HO_500002 := Aside0.mk (Kd.R_after (ok := (fun k_ => ((P0_0_ k_ ∨ P0_1_ k_ ∨ P0_2_ k_) ∨ w.heap.size ≤ k_) ∧ k_ ≠ gb517)) (ra HO_500002.out) hg hat); clear HO527; clear ho hb hg hat; obtain ⟨Ao160, co160, eo160⟩ := Kd.R_slice HO534.out; subst eo160; have hcz161_0 : w159.cell? ⟨gb499, 0, none⟩ = some (.slice Ao62 l0_0.length co62) := bc_ BK499 0; have hcz161_1 : w159.cell? ⟨gb499, 1, none⟩ = some (.slice Ao63 l0_1.length co63) := bc_ BK499 1; have hcz161_2 : w159.cell? ⟨gb499, 2, none⟩ = some (.slice (some ad516) l0_2.length co64) := bc_ BK499 2; have hfz161_0 := blk_frozen BK499.out 0; have hfz161_1 := blk_frozen BK499.out 1; have hfz161_2 := blk_frozen BK499.out 2; have hcz162_0 : w159.cell? ⟨gb500, 0, none⟩ = some (.int .i64 a1_0) := bc_ BK500 0; have hcz162_1 : w159.cell? ⟨gb500, 1, none⟩ = some (.int .i64 a1_1) := bc_ BK500 1; have hfz162_0 := blk_frozen BK500.out 0; have hfz162_1 := blk_frozen BK500.out 1; have hcz163_0 : w159.cell? ⟨gb501, 0, none⟩ = some (.slice none 0 0) := bc_ BK501 0; have hcz163_1 : w159.cell? ⟨gb501, 1, none⟩ = some (.slice none 0 0) := bc_ BK501 1; have hcz163_2 : w159.cell? ⟨gb501, 2, none⟩ = some (.slice none 0 0) := bc_ BK501 2; have hfz163_0 := blk_frozen BK501.out 0; have hfz163_1 := blk_frozen BK501.out 1; have hfz163_2 := blk_frozen BK501.out 2))
      refine bodyPost_ret (results_ct rfl _ _ gb501 35 #[.slice Ao62 l0_0.length co62, .slice Ao63 l0_1.length co63, .slice Ao160 y532.length co160] (0, 0) _ rfl (by (with_reducible repeat (first | refine blk_drewN ?_ _ | refine blk_drew ?_ | refine blk_alloc ?_ _)); refine blk_put (cs := #[.slice Ao62 l0_0.length co62, .slice Ao63 l0_1.length co63, .slice none 0 0]) ?_ 2 _ rfl; (with_reducible repeat (first | refine blk_drewN ?_ _ | refine blk_drew ?_ | refine blk_alloc ?_ _)); refine blk_put (cs := #[.slice Ao62 l0_0.length co62, .slice none 0 0, .slice none 0 0]) ?_ 1 _ rfl; (with_reducible repeat (first | refine blk_drewN ?_ _ | refine blk_drew ?_ | refine blk_alloc ?_ _)); refine blk_put (cs := #[.slice none 0 0, .slice none 0 0, .slice none 0 0]) ?_ 0 _ rfl; (with_reducible repeat (first | refine blk_drewN ?_ _ | refine blk_drew ?_ | refine blk_alloc ?_ _)); refine blk_far ?_ NB501_499.out _; (with_reducible repeat (first | refine blk_drewN ?_ _ | refine blk_drew ?_ | refine blk_alloc ?_ _)); exact BK501.out) Try.underlying35 rfl (by kernel_rfl)) rfl ?_
      exact ⟨_, _, _, by first | rfl | (simp [errW_none, errW_some] <;> rfl) | (simp only [← hji94]; first | rfl | (simp [errW_none, errW_some] <;> rfl)) | (simp [*, errW_none, errW_some] <;> rfl), by (with_reducible repeat (first | apply Kd.R_alloc | apply Kd.R_drewN | apply Kd.R_drew)); exact Kd.R_mono (Kd.R_far (p := ⟨gb501, 2, none⟩) (Kd.R_far (p := ⟨gb501, 1, none⟩) (Kd.R_far (p := ⟨gb501, 0, none⟩) (Kd.R_far (p := ⟨gb499, 2, none⟩) (Kd.R_types (Kd.R_types HO_500000.out BK499.out (by decide)) BK501.out (by decide)) (fun _ hk => hk.1.2) (.slice Ao160 y532.length co160)) (fun _ hk => hk.2) (.slice Ao62 l0_0.length co62)) (fun _ hk => hk.2) (.slice Ao63 l0_1.length co63)) (fun _ hk => hk.2) (.slice Ao160 y532.length co160)) (fun _ hk => hk.1.1), by (with_reducible repeat (first | apply Kd.R_alloc | apply Kd.R_drewN | apply Kd.R_drew)); exact Kd.R_mono (Kd.R_far (p := ⟨gb501, 2, none⟩) (Kd.R_far (p := ⟨gb501, 1, none⟩) (Kd.R_far (p := ⟨gb501, 0, none⟩) (Kd.R_far (p := ⟨gb499, 2, none⟩) (Kd.R_types (Kd.R_types HO_500001.out BK499.out (by decide)) BK501.out (by decide)) (fun _ hk => hk.1.2) (.slice Ao160 y532.length co160)) (fun _ hk => hk.2) (.slice Ao62 l0_0.length co62)) (fun _ hk => hk.2) (.slice Ao63 l0_1.length co63)) (fun _ hk => hk.2) (.slice Ao160 y532.length co160)) (fun _ hk => hk.1.1), by (with_reducible repeat (first | apply Kd.R_alloc | apply Kd.R_drewN | apply Kd.R_drew)); exact Kd.R_mono (Kd.R_far (p := ⟨gb501, 2, none⟩) (Kd.R_far (p := ⟨gb501, 1, none⟩) (Kd.R_far (p := ⟨gb501, 0, none⟩) (Kd.R_far (p := ⟨gb499, 2, none⟩) (Kd.R_types (Kd.R_types HO534.out BK499.out (by decide)) BK501.out (by decide)) (fun _ hk => hk.1.2) (.slice Ao160 y532.length co160)) (fun _ hk => hk.2) (.slice Ao62 l0_0.length co62)) (fun _ hk => hk.2) (.slice Ao63 l0_1.length co63)) (fun _ hk => hk.2) (.slice Ao160 y532.length co160)) (fun _ hk => hk.1.1.1), by repeat (first | (with_reducible first | exact HB.out | apply below_alloc | apply pw_below_drewN | apply below_drew1 | refine below_set ?_ GE499.out | refine below_set ?_ GE500.out | refine below_set ?_ GE501.out | refine below_set ?_ GE517.out) | exact HB.out), by repeat (first | (with_reducible first | exact HK.out | apply Kept.alloc | apply Kept.drewN | apply Kept.drew | refine Kept.setCell ?_ (.inr GW499.out) _ | refine Kept.setCell ?_ (.inr GW500.out) _ | refine Kept.setCell ?_ (.inr GW501.out) _ | refine Kept.setCell ?_ (.inr GW517.out) _) | exact HK.out)⟩
     rw [if_pos c98] at H
     have c98b0 : (a1_0 == 2) = true := beq_iff_eq.mpr c98
     have c98b1 : (a1_0 != 2) = false := bne_eq_false_iff_eq.mpr c98
     clear c98
     obtain ⟨ji99, hji99⟩ : ∃ j_ : Int, (wrap64 (1 - ((rd_T45 l0_2 a1_1).f0))) = j_ := ⟨_, rfl⟩
     replace H : (if 0 ≤ (ji99) then (if (ji99) < (l0_0.length : Int) then ((spec_NextState.f (rd l0_0 (ji99)) ((rd_T45 l0_2 a1_1).f1)).bind fun bt536 => (if (ji99) < (l0_1.length : Int) then (some ((l0_0.set ((ji99) : Int).toNat bt536.1), (l0_1.set ((ji99) : Int).toNat 3), y532, true)) else (none))) else (none)) else (none)) = some (r1, r2, r3, r4) := by first | (rw [hji99] at H; exact H) | (simp only [hji99] at H ⊢; exact H)
     have hji99w : (IntKind.i64.wrap (1 - ((rd_T45 l0_2 a1_1).f0))) = ji99 := (i64_w _).trans hji99
     by_cases c100 : 0 ≤ (ji99)
     rotate_left
     ·rw [if_neg c100] at H
      exact absurd H (by simp)
     rw [if_pos c100] at H
     have c100b0 : decide (0 ≤ (ji99)) = true := decide_eq_true c100
     clear c100
     by_cases c101 : (ji99) < (l0_0.length : Int)
     rotate_left
     ·rw [if_neg c101] at H
      exact absurd H (by simp)
     rw [if_pos c101] at H
     have c101b0 : decide ((ji99) < (l0_0.length : Int)) = true := decide_eq_true c101
     clear c101
     replace H := Option.bind_eq_some_iff.mp H
     obtain ⟨⟨t536, t537⟩, A1020, H⟩ := H
     replace H : (if (ji99) < (l0_1.length : Int) then (some ((l0_0.set ((ji99) : Int).toNat t536), (l0_1.set ((ji99) : Int).toNat 3), y532, true)) else (none)) = some (r1, r2, r3, r4) := H
     have A102 := Aside0.mk A1020
     clear A1020
     obtain ⟨y538, hy538⟩ : ∃ y_ : List Int, y_ = (l0_0.set ((ji99) : Int).toNat t536) := ⟨_, rfl⟩
     replace H : (if (ji99) < (l0_1.length : Int) then (some (y538, (l0_1.set ((ji99) : Int).toNat 3), y532, true)) else (none)) = some (r1, r2, r3, r4) := by first | (rw [hy538]; with_reducible exact H) | (have H2_ := (Option.bind_some _ _).symm.trans H; rw [hy538]; with_reducible exact H2_) | (have H2_ := (Option.bind_some _ _).symm.trans H; with_reducible exact H2_) | with_reducible exact H | (rw [hy538]; exact H) | exact H
     have Ny538 := Aside0.mk hy538
     clear hy538
     by_cases c104 : (ji99) < (l0_1.length : Int)
     rotate_left
     ·rw [if_neg c104] at H
      exact absurd H (by simp)
     rw [if_pos c104] at H
     have c104b0 : decide ((ji99) < (l0_1.length : Int)) = true := decide_eq_true c104
     clear c104
     obtain ⟨y539, hy539⟩ : ∃ y_ : List Int, y_ = (l0_1.set ((ji99) : Int).toNat 3) := ⟨_, rfl⟩
     replace H : (some (y538, y539, y532, true)) = some (r1, r2, r3, r4) := by first | (rw [hy539]; with_reducible exact H) | (have H2_ := (Option.bind_some _ _).symm.trans H; rw [hy539]; with_reducible exact H2_) | (have H2_ := (Option.bind_some _ _).symm.trans H; with_reducible exact H2_) | with_reducible exact H | (rw [hy539]; exact H) | exact H
     have Ny539 := Aside0.mk hy539
     clear hy539
     simp only [Option.some.injEq, Prod.mk.injEq] at H
     obtain ⟨rfl, rfl, rfl, rfl⟩ := H
     have hnb106 := NB499_500.out
     have hnc106 := NB500_499.out
     have hnb107 := NB499_501.out
     have hnc107 := NB501_499.out
     have hcz108_0 : wc.cell? ⟨gb499, 0, none⟩ = some (.slice Ao62 l0_0.length co62) := bc_ BK499 0
     have hcz108_1 : wc.cell? ⟨gb499, 1, none⟩ = some (.slice Ao63 l0_1.length co63) := bc_ BK499 1
     have hcz108_2 : wc.cell? ⟨gb499, 2, none⟩ = some (.slice Ao64 l0_2.length co64) := bc_ BK499 2
     have hfz108_0 := blk_frozen BK499.out 0
     have hfz108_1 := blk_frozen BK499.out 1
     have hfz108_2 := blk_frozen BK499.out 2
     have hnb109 := NB500_501.out
     have hnc109 := NB501_500.out
     have hcz110_0 : wc.cell? ⟨gb500, 0, none⟩ = some (.int .i64 a1_0) := bc_ BK500 0
     have hcz110_1 : wc.cell? ⟨gb500, 1, none⟩ = some (.int .i64 a1_1) := bc_ BK500 1
     have hfz110_0 := blk_frozen BK500.out 0
     have hfz110_1 := blk_frozen BK500.out 1
     have p516 : 0 ≤ (a1_1 : Int) := of_decide_eq_true (by first | (with_reducible assumption) | assumption)
     have q516 : a1_1 < (l0_2.length : Int) := of_decide_eq_true (by first | (with_reducible assumption) | assumption)
     obtain ⟨ad516, e516, hx516_0, hx516_1⟩ := at_T45 (Kd.R_reads' HO_500002.out).2.2 a1_1 p516 q516
     cases e516
     replace p516 := eq_true p516
     replace q516 := eq_true q516
     try go_wp2_with (first | ((with_reducible refine gate_dst (N := 6) rfl ?_); (try (refine gate_guard (by rfl) ?_; dsimp only)); refine box_event ?hg (N := 6) ?hd (cs := #[.int .i64 0, .bool false]) (t := 45) ?hr ?_; (case hd => rfl); (case hg => rfl); (case hr => first | (go_simp; done) | (go_simp; rfl)); intro gb517 hg w111 hbox hb; have BK517 := Aside0.mk (hbox); have GW517 := Aside0.mk ((by rw [hg]; exact (by first | exact HK.out.1 | exact (show Kept w _ (fun k_ => P0_0_ k_ ∨ P0_1_ k_ ∨ P0_2_ k_) from by repeat (first | (with_reducible first | exact HK.out | apply Kept.alloc | apply Kept.drewN | apply Kept.drew | refine Kept.setCell ?_ (.inr GW499.out) _ | refine Kept.setCell ?_ (.inr GW500.out) _ | refine Kept.setCell ?_ (.inr GW501.out) _) | exact HK.out)).1) : w.heap.size ≤ gb517)); have GE517 := gw_ hg HB; have NB499_517 := nl_ hg BK499; have NB517_499 := ng_ hg BK499; have NB500_517 := nl_ hg BK500; have NB517_500 := ng_ hg BK500; have NB501_517 := nl_ hg BK501; have NB517_501 := ng_ hg BK501; replace HO_500000 := rb_ HO_500000 hb; replace HO_500001 := rb_ HO_500001 hb; replace HO_500002 := Aside0.mk (Kd.R_below (Kd.R_elderB (ra HO_500002.out) gb517 (Nat.le_of_eq hg.symm)) hb); replace BK499 := bb_ BK499 hb; replace BK500 := bb_ BK500 hb; replace BK501 := bb_ BK501 hb; replace HK := Aside0.mk (Kept.below (S := (fun k_ => P0_0_ k_ ∨ P0_1_ k_ ∨ P0_2_ k_)) (by repeat (first | (with_reducible first | exact HK.out | apply Kept.alloc | apply Kept.drewN | apply Kept.drew | refine Kept.setCell ?_ (.inr GW499.out) _ | refine Kept.setCell ?_ (.inr GW500.out) _ | refine Kept.setCell ?_ (.inr GW501.out) _) | exact HK.out)) hb); replace HB := bst_ HB hb; clear hb hbox hg; have hnb112 := NB517_499.out; have hnc112 := NB499_517.out; have hnb113 := NB517_500.out; have hnc113 := NB500_517.out; have hnb114 := NB517_501.out; have hnc114 := NB501_517.out; have hcz115_0 : w111.cell? ⟨gb517, 0, none⟩ = some (.int .i64 0) := bc_ BK517 0; have hcz115_1 : w111.cell? ⟨gb517, 1, none⟩ = some (.bool false) := bc_ BK517 1; have hfz115_0 := blk_frozen BK517.out 0; have hfz115_1 := blk_frozen BK517.out 1) | ((with_reducible refine gate_dst (N := 71) rfl ?_); (try (refine gate_guard (by rfl) ?_; dsimp only)); refine Kd.R_lit k45 _ 45 ?hg (N := 71) ?hd (xs := ([] : List (S45))) (inner := []) (ok := fun _ => True) (okp := fun _ => True) ?hr ?hp (fun _ hk => hk) trivial (Below.refl _ _) (Nat.le_refl _) (by simp) ?_; (case hd => rfl); (case hg => rfl); (case hr => first | (go_simp; done) | (go_simp; rfl)); (case hp => exact (Reps.none _ _)); intro v519 w116 ho117 hb hg_ hnew_; clear hg_ hnew_; (first | rw [← Ny518.out] at ho117 | (simp only [Int.reduceToNat] at ho117; rw [← Ny518.out] at ho117)); have HO520 := Aside0.mk (Kd.R_lower (Kd.R_newB (Kd.R_new' (Kd.R_newM (M := fun k_ => ((P0_0_ k_ ∨ P0_1_ k_ ∨ P0_2_ k_) ∨ w.heap.size ≤ k_)) ho117 (show Kept w _ (fun k_ => P0_0_ k_ ∨ P0_1_ k_ ∨ P0_2_ k_) from by repeat (first | (with_reducible first | exact HK.out | apply Kept.alloc | apply Kept.drewN | apply Kept.drew | refine Kept.setCell ?_ (.inr GW499.out) _ | refine Kept.setCell ?_ (.inr GW500.out) _ | refine Kept.setCell ?_ (.inr GW501.out) _ | refine Kept.setCell ?_ (.inr GW517.out) _) | exact HK.out)).1 (fun k_ h_ => .inr h_)) (Kd.R_lt (ra (Kd.R_mono (Kd.R_far (p := ⟨gb517, 1, none⟩) (Kd.R_far (p := ⟨gb517, 0, none⟩) (Kd.R_mono HO_500002.out (fun k_ hk => (⟨hk, hk.2⟩ : _ ∧ k_ ≠ gb517))) (fun _ hk => hk.2) (.int .i64 ((rd_T45 l0_2 a1_1).f0))) (fun _ hk => hk.2) (.bool ((rd_T45 l0_2 a1_1).f1))) (fun _ h_ => h_.1))))) (g := gb517) (o := .cells #[.int .i64 ((rd_T45 l0_2 a1_1).f0), .bool ((rd_T45 l0_2 a1_1).f1)] 45 (0, 0)) (by (with_reducible repeat (first | refine blk_drewN ?_ _ | refine blk_drew ?_ | refine blk_alloc ?_ _)); refine blk_put (cs := #[.int .i64 ((rd_T45 l0_2 a1_1).f0), .bool false]) ?_ 1 _ rfl; (with_reducible repeat (first | refine blk_drewN ?_ _ | refine blk_drew ?_ | refine blk_alloc ?_ _)); refine blk_put (cs := #[.int .i64 0, .bool false]) ?_ 0 _ rfl; (with_reducible repeat (first | refine blk_drewN ?_ _ | refine blk_drew ?_ | refine blk_alloc ?_ _)); exact BK517.out)) (below_size (hB HB))); replace HO_500000 := Aside0.mk (Kd.R_below (ra (Kd.R_mono (Kd.R_far (p := ⟨gb517, 1, none⟩) (Kd.R_far (p := ⟨gb517, 0, none⟩) (Kd.R_types HO_500000.out BK517.out (by decide)) (fun _ hk => hk.2) (.int .i64 ((rd_T45 l0_2 a1_1).f0))) (fun _ hk => hk.2) (.bool ((rd_T45 l0_2 a1_1).f1))) (fun _ h_ => h_.1))) hb); replace HO_500001 := Aside0.mk (Kd.R_below (ra (Kd.R_mono (Kd.R_far (p := ⟨gb517, 1, none⟩) (Kd.R_far (p := ⟨gb517, 0, none⟩) (Kd.R_types HO_500001.out BK517.out (by decide)) (fun _ hk => hk.2) (.int .i64 ((rd_T45 l0_2 a1_1).f0))) (fun _ hk => hk.2) (.bool ((rd_T45 l0_2 a1_1).f1))) (fun _ h_ => h_.1))) hb); replace HO_500002 := Aside0.mk (Kd.R_elder' (ra (Kd.R_mono (Kd.R_far (p := ⟨gb517, 1, none⟩) (Kd.R_far (p := ⟨gb517, 0, none⟩) (Kd.R_mono HO_500002.out (fun k_ hk => (⟨hk, hk.2⟩ : _ ∧ k_ ≠ gb517))) (fun _ hk => hk.2) (.int .i64 ((rd_T45 l0_2 a1_1).f0))) (fun _ hk => hk.2) (.bool ((rd_T45 l0_2 a1_1).f1))) (fun _ h_ => h_.1))) (Kd.R_base ho117) hb); replace BK499 := Aside0.mk (blk_below (bx BK499) hb); replace BK500 := Aside0.mk (blk_below (bx BK500) hb); replace BK501 := Aside0.mk (blk_below (bx BK501) hb); replace BK517 := Aside0.mk (blk_below (g := gb517) (o := .cells #[.int .i64 ((rd_T45 l0_2 a1_1).f0), .bool ((rd_T45 l0_2 a1_1).f1)] 45 (0, 0)) (by (with_reducible repeat (first | refine blk_drewN ?_ _ | refine blk_drew ?_ | refine blk_alloc ?_ _)); refine blk_put (cs := #[.int .i64 ((rd_T45 l0_2 a1_1).f0), .bool false]) ?_ 1 _ rfl; (with_reducible repeat (first | refine blk_drewN ?_ _ | refine blk_drew ?_ | refine blk_alloc ?_ _)); refine blk_put (cs := #[.int .i64 0, .bool false]) ?_ 0 _ rfl; (with_reducible repeat (first | refine blk_drewN ?_ _ | refine blk_drew ?_ | refine blk_alloc ?_ _)); exact BK517.out) hb); replace HK := Aside0.mk (Kept.below (S := (fun k_ => P0_0_ k_ ∨ P0_1_ k_ ∨ P0_2_ k_)) (by repeat (first | (with_reducible first | exact HK.out | apply Kept.alloc | apply Kept.drewN | apply Kept.drew | refine Kept.setCell ?_ (.inr GW499.out) _ | refine Kept.setCell ?_ (.inr GW500.out) _ | refine Kept.setCell ?_ (.inr GW501.out) _ | refine Kept.setCell ?_ (.inr GW517.out) _) | exact HK.out)) hb); replace HB := bst_ HB hb; clear hb ho117; have hcz118_0 : w116.cell? ⟨gb499, 0, none⟩ = some (.slice Ao62 l0_0.length co62) := bc_ BK499 0; have hcz118_1 : w116.cell? ⟨gb499, 1, none⟩ = some (.slice Ao63 l0_1.length co63) := bc_ BK499 1; have hcz118_2 : w116.cell? ⟨gb499, 2, none⟩ = some (.slice (some ad516) l0_2.length co64) := bc_ BK499 2; have hfz118_0 := blk_frozen BK499.out 0; have hfz118_1 := blk_frozen BK499.out 1; have hfz118_2 := blk_frozen BK499.out 2; have hcz119_0 : w116.cell? ⟨gb500, 0, none⟩ = some (.int .i64 a1_0) := bc_ BK500 0; have hcz119_1 : w116.cell? ⟨gb500, 1, none⟩ = some (.int .i64 a1_1) := bc_ BK500 1; have hfz119_0 := blk_frozen BK500.out 0; have hfz119_1 := blk_frozen BK500.out 1; have q120 : (a1_1 : Int) ≤ ((l0_2.length : Int) : Int) := of_decide_eq_true (by first | (with_reducible assumption) | assumption); obtain ⟨i0120, hi0120, _, hsz120, _⟩ := info_parts info45; have hroom120 : l0_2.length ≤ co64 := (Kd.R_reads' HO_500002.out).2.1; have hC120 : Kd.C k45 _ (some ad516) l0_2.length l0_2 := (Kd.R_reads' HO_500002.out).2.2; have hcut120 := cut_to (P := Try.prog) 33 45 .i64 Try.underlying33 hi0120 (some ad516) l0_2.length co64 a1_1 (of_decide_eq_true (by first | (with_reducible assumption) | assumption)) q120 hroom120; have hr120 := Kd.C_take (m := (a1_1 : Int).toNat) hC120 (by omega); have hy120 : y521.length = (a1_1 : Int).toNat := (by rw [Ny521.out, List.length_take]; omega); rw [← Ny521.out] at hr120; rw [← hy120] at hcut120; have HR524 := Aside0.mk hr120; have HC524 := Aside0.mk (show y521.length ≤ co64 from by omega); clear hr120 hC120 hroom120 hi0120 hsz120; have KY120 := Aside0.mk hy120; clear hy120; have KL120 := Aside0.mk (show (a1_1 : Int).toNat ≤ l0_2.length from by omega); replace q120 := eq_true q120) | ((with_reducible refine gate_builtin (b := .append) (xs := #[.tmp 71, .tmp 76]) rfl ?_); (try (refine gate_guard (by rfl) ?_; dsimp only)); at_builtin; refine Kd.R_append_rows k45 (w0 := w0) w0.heap.size rfl (.tmp 71) (.tmp 76) 33 45 (.agg #[(.int .i64 0), (.bool false)]) 16 rfl Try.underlying33 info45 rfl (by decide) (by omega) v519 y518 y521 _ _ _ (fun k_ => ((P0_0_ k_ ∨ P0_1_ k_ ∨ P0_2_ k_) ∨ w.heap.size ≤ k_) ∧ some k_ ≠ (.slice (some ad516) l0_2.length co64 : Value).ownBlock ∧ k_ ≠ gb517) (fun _ => False) rfl rfl ?aO ?aR (fun _ _ h => h) (fun _ h => h.elim) ?aF ?aB ?aS ?aL ?_; (case aR => repeat (first | exact (by repeat (first | (with_reducible exact HR524.out) | (with_reducible refine Kd.C_alloc ?_ _) | (with_reducible refine Kd.C_drewN ?_ _) | (with_reducible refine Kd.C_drew ?_) | exact HR524.out)) | (with_reducible refine Kd.C_alloc ?_ _) | (with_reducible refine Kd.C_drewN ?_ _) | (with_reducible refine Kd.C_drew ?_))); (case aB => exact (hB HB)); (case aF => exact (fun k_ hk => ⟨(.inr (Nat.le_trans (by first | exact HK.out.1 | exact (show Kept w _ (fun k_ => P0_0_ k_ ∨ P0_1_ k_ ∨ P0_2_ k_) from by repeat (first | (with_reducible first | exact HK.out | apply Kept.alloc | apply Kept.drewN | apply Kept.drew | refine Kept.setCell ?_ (.inr GW499.out) _ | refine Kept.setCell ?_ (.inr GW500.out) _ | refine Kept.setCell ?_ (.inr GW501.out) _ | refine Kept.setCell ?_ (.inr GW517.out) _) | exact HK.out)).1) hk)), Kd.fresh' (rl_ HO_500002) k_ hk, Kd.freshB (g := gb517) (o := .cells #[.int .i64 ((rd_T45 l0_2 a1_1).f0), .bool ((rd_T45 l0_2 a1_1).f1)] 45 (0, 0)) (ba BK517.out) k_ hk⟩)); (case aO => exact (rm_ HO520 (fun _ hk => ⟨hk.1.1.1, ⟨hk.1.2, hk.2⟩⟩)).out); (case aS => exact (below_size (hB HB))); (case aL => have := LMc93.out; omega); intro v526 w121 ho hb hg hat; rw [← Ny525.out] at ho; have HO527 := Aside0.mk (ho); replace HO_500000 := Aside0.mk (Kd.R_over' (ra HO_500000.out) (Kd.R_typed (ra HO520.out)) (by decide) hg); replace HO_500001 := Aside0.mk (Kd.R_over' (ra HO_500001.out) (Kd.R_typed (ra HO520.out)) (by decide) hg); replace BK499 := Aside0.mk (blk_grown (g := gb499) (o := .cells #[.slice Ao62 l0_0.length co62, .slice Ao63 l0_1.length co63, .slice (some ad516) l0_2.length co64] 35 (0, 0)) (ba BK499.out) hg (Kd.R_ne HO520.out BK499.out (by decide))); replace BK500 := Aside0.mk (blk_grown (g := gb500) (o := .cells #[.int .i64 a1_0, .int .i64 a1_1] 37 (0, 0)) (ba BK500.out) hg (Kd.R_ne HO520.out BK500.out (by decide))); replace BK501 := Aside0.mk (blk_grown (g := gb501) (o := .cells #[.slice none 0 0, .slice none 0 0, .slice none 0 0] 35 (0, 0)) (ba BK501.out) hg (Kd.R_ne HO520.out BK501.out (by decide))); replace BK517 := Aside0.mk (blk_grown (g := gb517) (o := .cells #[.int .i64 ((rd_T45 l0_2 a1_1).f0), .bool ((rd_T45 l0_2 a1_1).f1)] 45 (0, 0)) (ba BK517.out) hg (Kd.R_away HO520.out (fun _ hk => hk.2))); replace HB := Aside0.mk (hb); replace HK := Aside0.mk (Kept.of_grown (S := (fun k_ => P0_0_ k_ ∨ P0_1_ k_ ∨ P0_2_ k_)) hg (by repeat (first | (with_reducible first | exact HK.out | apply Kept.alloc | apply Kept.drewN | apply Kept.drew | refine Kept.setCell ?_ (.inr GW499.out) _ | refine Kept.setCell ?_ (.inr GW500.out) _ | refine Kept.setCell ?_ (.inr GW501.out) _ | refine Kept.setCell ?_ (.inr GW517.out) _) | exact HK.out)) (fun k_ e_ => (HO520.out.1 k_ e_).1.1.1)); replace HR524 := Aside0.mk ((show Kd.C k45 w121 (some ad516) y521.length y521 from by rw [Ny521.out]; exact Kd.C_take (m := (a1_1 : Int).toNat) ((Kd.R_reads' (Kd.R_after (ok := (fun k_ => ((P0_0_ k_ ∨ P0_1_ k_ ∨ P0_2_ k_) ∨ w.heap.size ≤ k_) ∧ k_ ≠ gb517)) (ra HO_500002.out) hg hat)).2.2) KL120.out)); replace HO_500002 := Aside0.mk (Kd.R_after (ok := (fun k_ => ((P0_0_ k_ ∨ P0_1_ k_ ∨ P0_2_ k_) ∨ w.heap.size ≤ k_) ∧ k_ ≠ gb517)) (ra HO_500002.out) hg hat); clear HO520; clear ho hb hg hat; have hcz122_0 : w121.cell? ⟨gb499, 0, none⟩ = some (.slice Ao62 l0_0.length co62) := bc_ BK499 0; have hcz122_1 : w121.cell? ⟨gb499, 1, none⟩ = some (.slice Ao63 l0_1.length co63) := bc_ BK499 1; have hcz122_2 : w121.cell? ⟨gb499, 2, none⟩ = some (.slice (some ad516) l0_2.length co64) := bc_ BK499 2; have hfz122_0 := blk_frozen BK499.out 0; have hfz122_1 := blk_frozen BK499.out 1; have hfz122_2 := blk_frozen BK499.out 2; have hcz123_0 : w121.cell? ⟨gb500, 0, none⟩ = some (.int .i64 a1_0) := bc_ BK500 0; have hcz123_1 : w121.cell? ⟨gb500, 1, none⟩ = some (.int .i64 a1_1) := bc_ BK500 1; have hfz123_0 := blk_frozen BK500.out 0; have hfz123_1 := blk_frozen BK500.out 1; have q124 : ((ji94) : Int) ≤ ((l0_2.length : Int) : Int) := of_decide_eq_true (by first | (with_reducible assumption) | assumption); obtain ⟨i0124, hi0124, _, hsz124, _⟩ := info_parts info45; have hroom124 : l0_2.length ≤ co64 := (Kd.R_reads' HO_500002.out).2.1; have hC124 : Kd.C k45 _ (some ad516) l0_2.length l0_2 := (Kd.R_reads' HO_500002.out).2.2; have q0124 : (0 : Int) ≤ ((ji94) : Int) := of_decide_eq_true (by first | (with_reducible assumption) | assumption); have hcut124 := cut_from (P := Try.prog) 33 45 .i64 Try.underlying33 hi0124 2 hsz124 (some ad516) l0_2.length co64 (ji94) q0124 q124; have hr124 := Kd.C_drop (m := ((ji94) : Int).toNat) (c := co64) hC124 (by omega) hroom124; obtain ⟨A124, hA124⟩ : ∃ A1, A1 = (if co64 = ((ji94) : Int).toNat then (some ad516) else ((some ad516) : Option Addr).map (·.add (((ji94) : Int).toNat * 2))) := ⟨_, rfl⟩; obtain ⟨c124, hc124⟩ : ∃ c1, c1 = co64 - ((ji94) : Int).toNat := ⟨_, rfl⟩; have hy124 : y528.length = l0_2.length - ((ji94) : Int).toNat := (by rw [Ny528.out, List.length_drop] <;> omega); rw [show (l0_2).drop ((ji94) : Int).toNat = y528 from Ny528.out.symm] at hr124; replace hr124 : Kd.C k45 _ A124 y528.length y528 := (by rw [hA124]; exact hr124); rw [← hy124, ← hA124, ← hc124] at hcut124; have HR531 := Aside0.mk hr124; have HC531 := Aside0.mk (show y528.length ≤ c124 from by rw [hy124, hc124]; exact Nat.sub_le_sub_right hroom124 _); clear hr124 hC124 hroom124 hi0124 hsz124 hc124; have KY124 := Aside0.mk hy124; have KA124 := Aside0.mk hA124; clear hy124 hA124; have KL124 := Aside0.mk (show ((ji94) : Int).toNat ≤ l0_2.length from by omega); replace q124 := eq_true q124) | ((with_reducible refine gate_builtin (b := .append) (xs := #[.tmp 78, .tmp 84]) rfl ?_); (try (refine gate_guard (by rfl) ?_; dsimp only)); at_builtin; refine Kd.R_append_rows k45 (w0 := w0) w0.heap.size rfl (.tmp 78) (.tmp 84) 33 45 (.agg #[(.int .i64 0), (.bool false)]) 16 rfl Try.underlying33 info45 rfl (by decide) (by omega) v526 y525 y528 _ _ _ (fun k_ => ((P0_0_ k_ ∨ P0_1_ k_ ∨ P0_2_ k_) ∨ w.heap.size ≤ k_) ∧ some k_ ≠ (.slice (some ad516) l0_2.length co64 : Value).ownBlock ∧ k_ ≠ gb517) (fun _ => False) rfl rfl ?aO ?aR (fun _ _ h => h) (fun _ h => h.elim) ?aF ?aB ?aS ?aL ?_; (case aR => repeat (first | exact (by repeat (first | (with_reducible exact HR531.out) | (with_reducible refine Kd.C_alloc ?_ _) | (with_reducible refine Kd.C_drewN ?_ _) | (with_reducible refine Kd.C_drew ?_) | exact HR531.out)) | (with_reducible refine Kd.C_alloc ?_ _) | (with_reducible refine Kd.C_drewN ?_ _) | (with_reducible refine Kd.C_drew ?_))); (case aB => exact (hB HB)); (case aF => exact (fun k_ hk => ⟨(.inr (Nat.le_trans (by first | exact HK.out.1 | exact (show Kept w _ (fun k_ => P0_0_ k_ ∨ P0_1_ k_ ∨ P0_2_ k_) from by repeat (first | (with_reducible first | exact HK.out | apply Kept.alloc | apply Kept.drewN | apply Kept.drew | refine Kept.setCell ?_ (.inr GW499.out) _ | refine Kept.setCell ?_ (.inr GW500.out) _ | refine Kept.setCell ?_ (.inr GW501.out) _ | refine Kept.setCell ?_ (.inr GW517.out) _) | exact HK.out)).1) hk)), Kd.fresh' (rl_ HO_500002) k_ hk, Kd.freshB (g := gb517) (o := .cells #[.int .i64 ((rd_T45 l0_2 a1_1).f0), .bool ((rd_T45 l0_2 a1_1).f1)] 45 (0, 0)) (ba BK517.out) k_ hk⟩)); (case aO => exact (ra HO527.out)); (case aS => exact (below_size (hB HB))); (case aL => have := LMc97.out; omega); intro v533 w125 ho hb hg hat; rw [← Ny532.out] at ho; have HO534 := Aside0.mk (ho); replace HO_500000 := Aside0.mk (Kd.R_over' (ra HO_500000.out) (Kd.R_typed (ra HO527.out)) (by decide) hg); replace HO_500001 := Aside0.mk (Kd.R_over' (ra HO_500001.out) (Kd.R_typed (ra HO527.out)) (by decide) hg); replace BK499 := Aside0.mk (blk_grown (g := gb499) (o := .cells #[.slice Ao62 l0_0.length co62, .slice Ao63 l0_1.length co63, .slice (some ad516) l0_2.length co64] 35 (0, 0)) (ba BK499.out) hg (Kd.R_ne HO527.out BK499.out (by decide))); replace BK500 := Aside0.mk (blk_grown (g := gb500) (o := .cells #[.int .i64 a1_0, .int .i64 a1_1] 37 (0, 0)) (ba BK500.out) hg (Kd.R_ne HO527.out BK500.out (by decide))); replace BK501 := Aside0.mk (blk_grown (g := gb501) (o := .cells #[.slice none 0 0, .slice none 0 0, .slice none 0 0] 35 (0, 0)) (ba BK501.out) hg (Kd.R_ne HO527.out BK501.out (by decide))); replace BK517 := Aside0.mk (blk_grown (g := gb517) (o := .cells #[.int .i64 ((rd_T45 l0_2 a1_1).f0), .bool ((rd_T45 l0_2 a1_1).f1)] 45 (0, 0)) (ba BK517.out) hg (Kd.R_away HO527.out (fun _ hk => hk.2.2))); replace HB := Aside0.mk (hb); replace HK := Aside0.mk (Kept.of_grown (S := (fun k_ => P0_0_ k_ ∨ P0_1_ k_ ∨ P0_2_ k_)) hg (by repeat (first | (with_reducible first | exact HK.out | apply Kept.alloc | apply Kept.drewN | apply Kept.drew | refine Kept.setCell ?_ (.inr GW499.out) _ | refine Kept.setCell ?_ (.inr GW500.out) _ | refine Kept.setCell ?_ (.inr GW501.out) _ | refine Kept.setCell ?_ (.inr GW517.out) _) | exact HK.out)) (fun k_ e_ => (HO527.out.1 k_ e_).1)); replace HR524 := Aside0.mk ((show Kd.C k45 w125 (some ad516) y521.length y521 from by rw [Ny521.out]; exact Kd.C_take (m := (a1_1 : Int).toNat) ((Kd.R_reads' (Kd.R_after (ok := (fun k_ => ((P0_0_ k_ ∨ P0_1_ k_ ∨ P0_2_ k_) ∨ w.heap.size ≤ k_) ∧ k_ ≠ gb517)) (ra HO_500002.out) hg hat)).2.2) KL120.out)); replace HR531 := Aside0.mk ((show Kd.C k45 w125 A124 y528.length y528 from by rw [Ny528.out, KA124.out]; exact Kd.C_drop (m := ((ji94) : Int).toNat) (c := co64) ((Kd.R_reads' (Kd.R_after (ok := (fun k_ => ((P0_0_ k_ ∨ P0_1_ k_ ∨ P0_2_ k_) ∨ w.heap.size ≤ k_) ∧ k_ ≠ gb517)) (ra HO_500002.out) hg hat)).2.2) KL124.out ((Kd.R_reads' (Kd.R_after (ok := (fun k_ => ((P0_0_ k_ ∨ P0_1_ k_ ∨ P0_2_ k_) ∨ w.heap.size ≤ k_) ∧ k_ ≠ gb517)) (ra HO_500002.out) hg hat)).2.1))); replace HO_500002 := Aside0.mk (Kd.R_after (ok := (fun k_ => ((P0_0_ k_ ∨ P0_1_ k_ ∨ P0_2_ k_) ∨ w.heap.size ≤ k_) ∧ k_ ≠ gb517)) (ra HO_500002.out) hg hat); clear HO527; clear ho hb hg hat; obtain ⟨Ao126, co126, eo126⟩ := Kd.R_slice HO534.out; subst eo126; have hcz127_0 : w125.cell? ⟨gb499, 0, none⟩ = some (.slice Ao62 l0_0.length co62) := bc_ BK499 0; have hcz127_1 : w125.cell? ⟨gb499, 1, none⟩ = some (.slice Ao63 l0_1.length co63) := bc_ BK499 1; have hcz127_2 : w125.cell? ⟨gb499, 2, none⟩ = some (.slice (some ad516) l0_2.length co64) := bc_ BK499 2; have hfz127_0 := blk_frozen BK499.out 0; have hfz127_1 := blk_frozen BK499.out 1; have hfz127_2 := blk_frozen BK499.out 2; have hcz128_0 : w125.cell? ⟨gb500, 0, none⟩ = some (.int .i64 a1_0) := bc_ BK500 0; have hcz128_1 : w125.cell? ⟨gb500, 1, none⟩ = some (.int .i64 a1_1) := bc_ BK500 1; have hfz128_0 := blk_frozen BK500.out 0; have hfz128_1 := blk_frozen BK500.out 1; have hcz129_0 : w125.cell? ⟨gb517, 0, none⟩ = some (.int .i64 ((rd_T45 l0_2 a1_1).f0)) := bc_ BK517 0; have hcz129_1 : w125.cell? ⟨gb517, 1, none⟩ = some (.bool ((rd_T45 l0_2 a1_1).f1)) := bc_ BK517 1; have hfz129_0 := blk_frozen BK517.out 0; have hfz129_1 := blk_frozen BK517.out 1))
     have n0_ : Aside0 (Kd.R (Kd.int .i64) 3 (w125.setCell ⟨gb499, 2, none⟩ (.slice Ao126 y532.length co126)) w0.heap.size (fun k_ => ((P0_0_ k_ ∨ P0_1_ k_ ∨ P0_2_ k_) ∨ w.heap.size ≤ k_) ∧ no_ (.slice Ao63 l0_1.length co63) k_) (.slice Ao62 l0_0.length co62) l0_0) := ⟨by (with_reducible repeat (first | apply Kd.R_alloc | apply Kd.R_drewN | apply Kd.R_drew)); exact Kd.R_mono (Kd.R_far (p := ⟨gb499, 2, none⟩) (Kd.R_types HO_500000.out BK499.out (by decide)) (fun _ hk => hk.2) (.slice Ao126 y532.length co126)) (fun _ hk => hk.1)⟩
     have n1_ : Aside0 (Kd.R (Kd.int .i64) 3 (w125.setCell ⟨gb499, 2, none⟩ (.slice Ao126 y532.length co126)) w0.heap.size (fun k_ => ((P0_0_ k_ ∨ P0_1_ k_ ∨ P0_2_ k_) ∨ w.heap.size ≤ k_) ∧ no_ (.slice Ao62 l0_0.length co62) k_) (.slice Ao63 l0_1.length co63) l0_1) := ⟨by (with_reducible repeat (first | apply Kd.R_alloc | apply Kd.R_drewN | apply Kd.R_drew)); exact Kd.R_mono (Kd.R_far (p := ⟨gb499, 2, none⟩) (Kd.R_types HO_500001.out BK499.out (by decide)) (fun _ hk => hk.2) (.slice Ao126 y532.length co126)) (fun _ hk => hk.1)⟩
     have n2_ : Aside0 (Kd.R k45 45 (w125.setCell ⟨gb499, 2, none⟩ (.slice Ao126 y532.length co126)) w0.heap.size (fun k_ => ((P0_0_ k_ ∨ P0_1_ k_ ∨ P0_2_ k_) ∨ w.heap.size ≤ k_) ∧ no_ (.slice Ao126 y532.length co126) k_ ∧ k_ ≠ gb517) (.slice (some ad516) l0_2.length co64) l0_2) := ⟨by (with_reducible repeat (first | apply Kd.R_alloc | apply Kd.R_drewN | apply Kd.R_drew)); exact Kd.R_mono (Kd.R_far (p := ⟨gb499, 2, none⟩) (Kd.R_types HO_500002.out BK499.out (by decide)) (fun _ hk => hk.2) (.slice Ao126 y532.length co126)) (fun _ hk => ⟨hk.1.1.1, ⟨hk.1.2, hk.1.1.2⟩⟩)⟩
     have n3_ : Aside0 (Kd.R k45 45 (w125.setCell ⟨gb499, 2, none⟩ (.slice Ao126 y532.length co126)) w0.heap.size (fun k_ => ((P0_0_ k_ ∨ P0_1_ k_ ∨ P0_2_ k_) ∨ w.heap.size ≤ k_) ∧ some k_ ≠ (.slice (some ad516) l0_2.length co64 : Value).ownBlock ∧ k_ ≠ gb517) (.slice Ao126 y532.length co126) y532) := ⟨by (with_reducible repeat (first | apply Kd.R_alloc | apply Kd.R_drewN | apply Kd.R_drew)); exact Kd.R_mono (Kd.R_far (p := ⟨gb499, 2, none⟩) (Kd.R_types HO534.out BK499.out (by decide)) (fun _ hk => hk.2) (.slice Ao126 y532.length co126)) (fun _ hk => hk.1)⟩
     have n4_ : Aside0 ((w125.setCell ⟨gb499, 2, none⟩ (.slice Ao126 y532.length co126)).heap[gb499]? = some (.cells #[.slice Ao62 l0_0.length co62, .slice Ao63 l0_1.length co63, .slice Ao126 y532.length co126] 35 (0, 0))) := ⟨by (with_reducible repeat (first | refine blk_drewN ?_ _ | refine blk_drew ?_ | refine blk_alloc ?_ _)); refine blk_put (cs := #[.slice Ao62 l0_0.length co62, .slice Ao63 l0_1.length co63, .slice (some ad516) l0_2.length co64]) ?_ 2 _ rfl; (with_reducible repeat (first | refine blk_drewN ?_ _ | refine blk_drew ?_ | refine blk_alloc ?_ _)); exact BK499.out⟩
     have n5_ : Aside0 ((w125.setCell ⟨gb499, 2, none⟩ (.slice Ao126 y532.length co126)).heap[gb500]? = some (.cells #[.int .i64 a1_0, .int .i64 a1_1] 37 (0, 0))) := ⟨by (with_reducible repeat (first | refine blk_drewN ?_ _ | refine blk_drew ?_ | refine blk_alloc ?_ _)); refine blk_far ?_ NB500_499.out _; (with_reducible repeat (first | refine blk_drewN ?_ _ | refine blk_drew ?_ | refine blk_alloc ?_ _)); exact BK500.out⟩
     have n6_ : Aside0 ((w125.setCell ⟨gb499, 2, none⟩ (.slice Ao126 y532.length co126)).heap[gb501]? = some (.cells #[.slice none 0 0, .slice none 0 0, .slice none 0 0] 35 (0, 0))) := ⟨by (with_reducible repeat (first | refine blk_drewN ?_ _ | refine blk_drew ?_ | refine blk_alloc ?_ _)); refine blk_far ?_ NB501_499.out _; (with_reducible repeat (first | refine blk_drewN ?_ _ | refine blk_drew ?_ | refine blk_alloc ?_ _)); exact BK501.out⟩
     have n7_ : Aside0 ((w125.setCell ⟨gb499, 2, none⟩ (.slice Ao126 y532.length co126)).heap[gb517]? = some (.cells #[.int .i64 ((rd_T45 l0_2 a1_1).f0), .bool ((rd_T45 l0_2 a1_1).f1)] 45 (0, 0))) := ⟨by (with_reducible repeat (first | refine blk_drewN ?_ _ | refine blk_drew ?_ | refine blk_alloc ?_ _)); refine blk_far ?_ NB517_499.out _; (with_reducible repeat (first | refine blk_drewN ?_ _ | refine blk_drew ?_ | refine blk_alloc ?_ _)); exact BK517.out⟩
     have n8_ : Aside0 (Kept w (w125.setCell ⟨gb499, 2, none⟩ (.slice Ao126 y532.length co126)) (fun k_ => P0_0_ k_ ∨ P0_1_ k_ ∨ P0_2_ k_)) := ⟨by repeat (first | (with_reducible first | exact HK.out | apply Kept.alloc | apply Kept.drewN | apply Kept.drew | refine Kept.setCell ?_ (.inr GW499.out) _ | refine Kept.setCell ?_ (.inr GW500.out) _ | refine Kept.setCell ?_ (.inr GW501.out) _ | refine Kept.setCell ?_ (.inr GW517.out) _) | exact HK.out)⟩
     have n9_ : Aside0 (Below w0.heap.size w0 (w125.setCell ⟨gb499, 2, none⟩ (.slice Ao126 y532.length co126))) := ⟨hB HB⟩
     (try clear HO_500000)
     (try clear HO_500001)
     (try clear HO_500002)
     (try clear HO534)
     (try clear BK499)
     (try clear BK500)
     (try clear BK501)
     (try clear BK517)
     (try clear HK)
     (try clear HB)
     generalize (w125.setCell ⟨gb499, 2, none⟩ (.slice Ao126 y532.length co126)) = w130 at n0_ n1_ n2_ n3_ n4_ n5_ n6_ n7_ n8_ n9_ ⊢
     have HO_500000 := n0_
     have HO_500001 := n1_
     have HO_500002 := n2_
     have HO534 := n3_
     have BK499 := n4_
     have BK500 := n5_
     have BK501 := n6_
     have BK517 := n7_
     have HK := n8_
     have HB := n9_
     clear n0_ n1_ n2_ n3_ n4_ n5_ n6_ n7_ n8_ n9_
     replace HO_500000 := rd_ HO_500000
     replace HO_500001 := rd_ HO_500001
     replace HO_500002 := rd_ HO_500002
     replace HO534 := rd_ HO534
     replace BK499 := bd_ BK499
     replace BK500 := bd_ BK500
     replace BK501 := bd_ BK501
     replace BK517 := bd_ BK517
     replace HK := Aside0.mk (Kept.drew HK.out)
     replace HB := Aside0.mk (below_drew1 HB.out)
     have p535 : 0 ≤ ((ji99) : Int) := of_decide_eq_true (by first | (with_reducible assumption) | assumption)
     have q535 : (ji99) < (l0_0.length : Int) := of_decide_eq_true (by first | (with_reducible assumption) | assumption)
     obtain ⟨ad535, e535, hx535_0⟩ := Kd.at_int (Kd.R_reads' HO_500000.out).2.2 (ji99) p535 q535
     cases e535
     replace p535 := eq_true p535
     replace q535 := eq_true q535
     refine start_ (n := 13) (S := fun w' => w'.cell? ⟨gb499, 0, none⟩ = some (.slice (some ad535) l0_0.length co62) ∧ w'.cell? ⟨gb499, 1, none⟩ = some (.slice Ao63 l0_1.length co63) ∧ w'.cell? ⟨gb499, 2, none⟩ = some (.slice Ao126 y532.length co126) ∧ w'.cell? ⟨gb517, 0, none⟩ = some (.int .i64 ((rd_T45 l0_2 a1_1).f0)) ∧ w'.cell? ⟨gb517, 1, none⟩ = some (.bool ((rd_T45 l0_2 a1_1).f1)) ∧ w'.cell? (ad535.add ((ji99)).toNat) = some (.int .i64 (rd l0_0 (ji99)))) (ds := []) (bs 13 0) (by kernel_rfl) rfl rfl ⟨bc_ BK499 0, bc_ BK499 1, bc_ BK499 2, bc_ BK517 0, bc_ BK517 1, hx535_0⟩ (fun hHeld => ?_); refine with_tabW spec_l3Step.tab19 spec_l3Step.bits19 (fun HT_ HW_ => ?_)
     generalize w130.drew = w131 at HO_500000 HO_500001 HO_500002 HO534 BK499 BK500 BK501 BK517 HK HB hx535_0 hHeld ⊢
     refine pu_ 0 94 (bs 13 1) HT_ ?_
     refine pu_ 2 96 (bs 13 5) HT_ ?_
     refine pu_ 5 99 (bs 13 37) HT_ ?_
     refine tk_ 1 95 (bs 13 39) HT_ HW_ hHeld ?_
     refine pu_ 3 97 (bs 13 47) HT_ ?_
     refine tk_ 4 98 (bs 13 63) HT_ HW_ hHeld ?_
     refine tk_ 6 100 (bs 13 127) HT_ HW_ hHeld ?_
     refine one_ (i := 7) (N := some 101) (bs 13 255) rfl rfl (one_of HT_.out (by kernel_rfl)) (by decide) (fun K hK => ?_)
     refine goes_ Try.func38 (by kernel_rfl) rfl #[.int .i64 (rd l0_0 (ji99)), .bool ((rd_T45 l0_2 a1_1).f1)] (by rfl) rfl rfl (by (try simp only [List.map_toArray, List.map_cons, List.map_nil]); first | done | (simp only [hji99]; rfl) | rfl | (simp only [List.length_drop, List.length_take]; rfl)) ?_
     with_reducible refine (spec_NextState.calls (rd l0_0 (ji99)) ((rd_T45 l0_2 a1_1).f1) t536 t537 _ A102.out).mono ?_
     rintro e w' ⟨rfl, ⟨nd, rfl⟩⟩
     refine ⟨_, rfl, ?_⟩
     generalize hq_ : World.drewN w131 nd = w131
     replace HO_500000 := Aside0.mk (Kd.R_at hq_ HO_500000.out)
     replace HO_500001 := Aside0.mk (Kd.R_at hq_ HO_500001.out)
     replace HO_500002 := Aside0.mk (Kd.R_at hq_ HO_500002.out)
     replace HO534 := Aside0.mk (Kd.R_at hq_ HO534.out)
     replace BK499 := Aside0.mk (blk_at hq_ BK499.out)
     replace BK500 := Aside0.mk (blk_at hq_ BK500.out)
     replace BK501 := Aside0.mk (blk_at hq_ BK501.out)
     replace BK517 := Aside0.mk (blk_at hq_ BK517.out)
     replace HK := Aside0.mk (kept_at hq_ HK.out)
     replace HB := Aside0.mk (below_at hq_ HB.out)
     try replace hx535_0 := cell_at hq_ hx535_0
     have HQ_ := Aside0.mk hq_
     clear hq_
     refine hK.out _ _ ⟨bc_ BK499 0, bc_ BK499 1, bc_ BK499 2, bc_ BK517 0, bc_ BK517 1, (cell_at HQ_.out hHeld.2.2.2.2.2)⟩ (fun hHeld => ?_)
     clear hK K
     refine nm_ 101 ?_
     refine pu_ 8 93 (bs 13 511) HT_ ?_
     refine pu_ 9 102 (bs 13 1023) HT_ ?_
     refine pu_ 10 103 (bs 13 2047) HT_ ?_
     refine pu_ 11 9 (bs 13 4095) HT_ ?_
     refine pu_ 12 10 (bs 13 8191) HT_ ?_
     refine done_ (done_of HT_.out (by kernel_rfl)) ?_
     have hcz132_0 : w131.cell? ⟨gb499, 0, none⟩ = some (.slice (some ad535) l0_0.length co62) := bc_ BK499 0
     have hcz132_1 : w131.cell? ⟨gb499, 1, none⟩ = some (.slice Ao63 l0_1.length co63) := bc_ BK499 1
     have hcz132_2 : w131.cell? ⟨gb499, 2, none⟩ = some (.slice Ao126 y532.length co126) := bc_ BK499 2
     have hfz132_0 := blk_frozen BK499.out 0
     have hfz132_1 := blk_frozen BK499.out 1
     have hfz132_2 := blk_frozen BK499.out 2
     have p103 : 0 ≤ ((ji99) : Int) := of_decide_eq_true (by first | (with_reducible assumption) | assumption)
     have q103 : ((ji99) : Int) < ((l0_0.length : Int) : Int) := of_decide_eq_true (by first | (with_reducible assumption) | assumption)
     obtain ⟨go103, co103, eo103, gb103, gl103, cl103, HG103⟩ := Kd.R_form HO_500000.out (by omega)
     (first | cases eo103 | (injection eo103 with ea_ en_ ec_; (first | subst ea_ | (injection ea_ with ea_; subst ea_)); subst ec_; clear en_))
     have GB103 := Aside0.mk gb103
     have GG103 := Aside0.mk HG103
     clear gb103 gl103 HG103
     have HMgo103 := Aside0.mk (show ((P0_0_ go103 ∨ P0_1_ go103 ∨ P0_2_ go103) ∨ w.heap.size ≤ go103) from (HO_500000.out.1 _ rfl).1)
     (first | simp only [add_plain] at hx535_0 | skip)
     obtain ⟨hx103_0, hf103_0⟩ := Kd.R_celln 0 HO_500000.out ((ji99) : Int) p103 q103
     replace p103 := eq_true p103
     replace q103 := eq_true q103
     obtain ⟨hy133_, hz133_⟩ := Kd.R_celln 0 HO_500000.out ((ji99) : Int) (of_decide_eq_true (by first | (with_reducible assumption) | assumption)) (of_decide_eq_true (by first | (with_reducible assumption) | assumption))
     have HP133 := Kd.R_putg HO_500000.out ((ji99) : Int) t536
     try go_wp2_with (first | ((with_reducible refine gate_store (t := 3) (p := 108) rfl ?_); refine store_event (t := 3) (p := 108) (v := ?vo_w134) (w1 := (w131.setCell ⟨go103, ((ji99) : Int).toNat, none⟩ (.int .i64 t536))) ?hg ?ho ?hn ?hr ?_; (case ho => rfl); (case hg => rfl); (case hn => rfl); (case hr => first | (go_simp; done) | (go_simp; rfl)); intro w134 hw; have hg : w131.grownBy w134 (some go103) := (by rw [hw]; exact HP133.2); have hp_ : Kd.R (Kd.int .i64) 3 w134 w0.heap.size (fun k_ => ((P0_0_ k_ ∨ P0_1_ k_ ∨ P0_2_ k_) ∨ w.heap.size ≤ k_) ∧ no_ (.slice Ao63 l0_1.length co63) k_) (.slice (some ⟨go103, 0, none⟩) l0_0.length co62) y538 := (by rw [hw, Ny538.out]; exact HP133.1); clear HP133; replace HO_500001 := Aside0.mk (Kd.R_after (v := (.slice (some ⟨go103, 0, none⟩) l0_0.length co62)) (v1 := (.slice (some ⟨go103, 0, none⟩) l0_0.length co62)) (ok := (fun k_ => ((P0_0_ k_ ∨ P0_1_ k_ ∨ P0_2_ k_) ∨ w.heap.size ≤ k_))) (ra HO_500001.out) hg (.inl rfl)); replace HO_500002 := Aside0.mk (Kd.R_over' (v := (.slice (some ⟨go103, 0, none⟩) l0_0.length co62)) (ra HO_500002.out) (Kd.R_typed HO_500000.out) (by decide) hg); replace BK499 := Aside0.mk (blk_grown (g := gb499) (o := .cells #[.slice (some ⟨go103, 0, none⟩) l0_0.length co62, .slice Ao63 l0_1.length co63, .slice Ao126 y532.length co126] 35 (0, 0)) (ba BK499.out) hg (Kd.R_ne HO_500000.out BK499.out (by decide))); replace BK500 := Aside0.mk (blk_grown (g := gb500) (o := .cells #[.int .i64 a1_0, .int .i64 a1_1] 37 (0, 0)) (ba BK500.out) hg (Kd.R_ne HO_500000.out BK500.out (by decide))); replace BK501 := Aside0.mk (blk_grown (g := gb501) (o := .cells #[.slice none 0 0, .slice none 0 0, .slice none 0 0] 35 (0, 0)) (ba BK501.out) hg (Kd.R_ne HO_500000.out BK501.out (by decide))); replace BK517 := Aside0.mk (blk_grown (g := gb517) (o := .cells #[.int .i64 ((rd_T45 l0_2 a1_1).f0), .bool ((rd_T45 l0_2 a1_1).f1)] 45 (0, 0)) (ba BK517.out) hg (Kd.R_ne HO_500000.out BK517.out (by decide))); replace HO534 := Aside0.mk (Kd.R_over' (v := (.slice (some ⟨go103, 0, none⟩) l0_0.length co62)) (ra HO534.out) (Kd.R_typed HO_500000.out) (by decide) hg); replace HB := Aside0.mk ((by rw [hw]; exact below_set (HB.out) GB103.out : Below w0.heap.size w0 w134)); replace HK := Aside0.mk (Kept.of_grown (S := (fun k_ => P0_0_ k_ ∨ P0_1_ k_ ∨ P0_2_ k_)) hg (by repeat (first | (with_reducible first | exact HK.out | apply Kept.alloc | apply Kept.drewN | apply Kept.drew | refine Kept.setCell ?_ (.inr GW499.out) _ | refine Kept.setCell ?_ (.inr GW500.out) _ | refine Kept.setCell ?_ (.inr GW501.out) _ | refine Kept.setCell ?_ (.inr GW517.out) _) | exact HK.out)) (fun k_ e_ => (HO_500000.out.1 k_ e_).1)); replace HO_500000 := Aside0.mk (hp_); clear hg hw hp_; have hcz135_0 : w134.cell? ⟨gb499, 0, none⟩ = some (.slice (some ⟨go103, 0, none⟩) l0_0.length co62) := bc_ BK499 0; have hcz135_1 : w134.cell? ⟨gb499, 1, none⟩ = some (.slice Ao63 l0_1.length co63) := bc_ BK499 1; have hcz135_2 : w134.cell? ⟨gb499, 2, none⟩ = some (.slice Ao126 y532.length co126) := bc_ BK499 2; have hfz135_0 := blk_frozen BK499.out 0; have hfz135_1 := blk_frozen BK499.out 1; have hfz135_2 := blk_frozen BK499.out 2; have p105 : 0 ≤ ((ji99) : Int) := of_decide_eq_true (by first | (with_reducible assumption) | assumption); have q105 : ((ji99) : Int) < ((l0_1.length : Int) : Int) := of_decide_eq_true (by first | (with_reducible assumption) | assumption); obtain ⟨go105, co105, eo105, gb105, gl105, cl105, HG105⟩ := Kd.R_form HO_500001.out (by omega); (first | cases eo105 | (injection eo105 with ea_ en_ ec_; (first | subst ea_ | (injection ea_ with ea_; subst ea_)); subst ec_; clear en_)); have GB105 := Aside0.mk gb105; have GG105 := Aside0.mk HG105; clear gb105 gl105 HG105; have HMgo105 := Aside0.mk (show ((P0_0_ go105 ∨ P0_1_ go105 ∨ P0_2_ go105) ∨ w.heap.size ≤ go105) from (HO_500001.out.1 _ rfl).1); obtain ⟨hx105_0, hf105_0⟩ := Kd.R_celln 0 HO_500001.out ((ji99) : Int) p105 q105; replace p105 := eq_true p105; replace q105 := eq_true q105; obtain ⟨hy136_, hz136_⟩ := Kd.R_celln 0 HO_500001.out ((ji99) : Int) (of_decide_eq_true (by first | (with_reducible assumption) | assumption)) (of_decide_eq_true (by first | (with_reducible assumption) | assumption)); have HP136 := Kd.R_putg HO_500001.out ((ji99) : Int) 3) | ((with_reducible refine gate_store (t := 3) (p := 112) rfl ?_); refine store_event (t := 3) (p := 112) (v := ?vo_w137) (w1 := (w134.setCell ⟨go105, ((ji99) : Int).toNat, none⟩ (.int .i64 3))) ?hg ?ho ?hn ?hr ?_; (case ho => rfl); (case hg => rfl); (case hn => rfl); (case hr => first | (go_simp; done) | (go_simp; rfl)); intro w137 hw; have hg : w134.grownBy w137 (some go105) := (by rw [hw]; exact HP136.2); have hp_ : Kd.R (Kd.int .i64) 3 w137 w0.heap.size (fun k_ => ((P0_0_ k_ ∨ P0_1_ k_ ∨ P0_2_ k_) ∨ w.heap.size ≤ k_) ∧ some k_ ≠ (.slice (some ⟨go103, 0, none⟩) l0_0.length co62 : Value).ownBlock) (.slice (some ⟨go105, 0, none⟩) l0_1.length co63) y539 := (by rw [hw, Ny539.out]; exact HP136.1); clear HP136; replace HO_500000 := Aside0.mk (Kd.R_after (v := (.slice (some ⟨go105, 0, none⟩) l0_1.length co63)) (v1 := (.slice (some ⟨go105, 0, none⟩) l0_1.length co63)) (ok := (fun k_ => ((P0_0_ k_ ∨ P0_1_ k_ ∨ P0_2_ k_) ∨ w.heap.size ≤ k_))) (ra HO_500000.out) hg (.inl rfl)); replace HO_500002 := Aside0.mk (Kd.R_over' (v := (.slice (some ⟨go105, 0, none⟩) l0_1.length co63)) (ra HO_500002.out) (Kd.R_typed HO_500001.out) (by decide) hg); replace BK499 := Aside0.mk (blk_grown (g := gb499) (o := .cells #[.slice (some ⟨go103, 0, none⟩) l0_0.length co62, .slice (some ⟨go105, 0, none⟩) l0_1.length co63, .slice Ao126 y532.length co126] 35 (0, 0)) (ba BK499.out) hg (Kd.R_ne HO_500001.out BK499.out (by decide))); replace BK500 := Aside0.mk (blk_grown (g := gb500) (o := .cells #[.int .i64 a1_0, .int .i64 a1_1] 37 (0, 0)) (ba BK500.out) hg (Kd.R_ne HO_500001.out BK500.out (by decide))); replace BK501 := Aside0.mk (blk_grown (g := gb501) (o := .cells #[.slice none 0 0, .slice none 0 0, .slice none 0 0] 35 (0, 0)) (ba BK501.out) hg (Kd.R_ne HO_500001.out BK501.out (by decide))); replace BK517 := Aside0.mk (blk_grown (g := gb517) (o := .cells #[.int .i64 ((rd_T45 l0_2 a1_1).f0), .bool ((rd_T45 l0_2 a1_1).f1)] 45 (0, 0)) (ba BK517.out) hg (Kd.R_ne HO_500001.out BK517.out (by decide))); replace HO534 := Aside0.mk (Kd.R_over' (v := (.slice (some ⟨go105, 0, none⟩) l0_1.length co63)) (ra HO534.out) (Kd.R_typed HO_500001.out) (by decide) hg); replace HB := Aside0.mk ((by rw [hw]; exact below_set (HB.out) GB105.out : Below w0.heap.size w0 w137)); replace HK := Aside0.mk (Kept.of_grown (S := (fun k_ => P0_0_ k_ ∨ P0_1_ k_ ∨ P0_2_ k_)) hg (by repeat (first | (with_reducible first | exact HK.out | apply Kept.alloc | apply Kept.drewN | apply Kept.drew | refine Kept.setCell ?_ (.inr GW499.out) _ | refine Kept.setCell ?_ (.inr GW500.out) _ | refine Kept.setCell ?_ (.inr GW501.out) _ | refine Kept.setCell ?_ (.inr GW517.out) _) | exact HK.out)) (fun k_ e_ => (HO_500001.out.1 k_ e_).1)); replace HO_500001 := Aside0.mk (hp_); clear hg hw hp_; have hcz138_0 : w137.cell? ⟨gb499, 0, none⟩ = some (.slice (some ⟨go103, 0, none⟩) l0_0.length co62) := bc_ BK499 0; have hcz138_1 : w137.cell? ⟨gb499, 1, none⟩ = some (.slice (some ⟨go105, 0, none⟩) l0_1.length co63) := bc_ BK499 1; have hcz138_2 : w137.cell? ⟨gb499, 2, none⟩ = some (.slice Ao126 y532.length co126) := bc_ BK499 2; have hfz138_0 := blk_frozen BK499.out 0; have hfz138_1 := blk_frozen BK499.out 1; have hfz138_2 := blk_frozen BK499.out 2; have hcz139_0 : w137.cell? ⟨gb501, 0, none⟩ = some (.slice none 0 0) := bc_ BK501 0; have hcz139_1 : w137.cell? ⟨gb501, 1, none⟩ = some (.slice none 0 0) := bc_ BK501 1; have hcz139_2 : w137.cell? ⟨gb501, 2, none⟩ = some (.slice none 0 0) := bc_ BK501 2; have hfz139_0 := blk_frozen BK501.out 0; have hfz139_1 := blk_frozen BK501.out 1; have hfz139_2 := blk_frozen BK501.out 2))
     refine bodyPost_ret (results_ct rfl _ _ gb501 35 #[.slice (some ⟨go103, 0, none⟩) l0_0.length co62, .slice (some ⟨go105, 0, none⟩) l0_1.length co63, .slice Ao126 y532.length co126] (0, 0) _ rfl (by (with_reducible repeat (first | refine blk_drewN ?_ _ | refine blk_drew ?_ | refine blk_alloc ?_ _)); refine blk_put (cs := #[.slice (some ⟨go103, 0, none⟩) l0_0.length co62, .slice (some ⟨go105, 0, none⟩) l0_1.length co63, .slice none 0 0]) ?_ 2 _ rfl; (with_reducible repeat (first | refine blk_drewN ?_ _ | refine blk_drew ?_ | refine blk_alloc ?_ _)); refine blk_put (cs := #[.slice (some ⟨go103, 0, none⟩) l0_0.length co62, .slice none 0 0, .slice none 0 0]) ?_ 1 _ rfl; (with_reducible repeat (first | refine blk_drewN ?_ _ | refine blk_drew ?_ | refine blk_alloc ?_ _)); refine blk_put (cs := #[.slice none 0 0, .slice none 0 0, .slice none 0 0]) ?_ 0 _ rfl; (with_reducible repeat (first | refine blk_drewN ?_ _ | refine blk_drew ?_ | refine blk_alloc ?_ _)); exact BK501.out) Try.underlying35 rfl (by kernel_rfl)) rfl ?_
     exact ⟨_, _, _, by first | rfl | (simp [errW_none, errW_some] <;> rfl) | (simp only [← hji94, ← hji99]; first | rfl | (simp [errW_none, errW_some] <;> rfl)) | (simp [*, errW_none, errW_some] <;> rfl), by (with_reducible repeat (first | apply Kd.R_alloc | apply Kd.R_drewN | apply Kd.R_drew)); exact Kd.R_mono (fs3_ HO_500000.out BK501.out) (fun _ hk => hk.1), by (with_reducible repeat (first | apply Kd.R_alloc | apply Kd.R_drewN | apply Kd.R_drew)); exact Kd.R_mono (fs3_ HO_500001.out BK501.out) (fun _ hk => hk.1), by (with_reducible repeat (first | apply Kd.R_alloc | apply Kd.R_drewN | apply Kd.R_drew)); exact Kd.R_mono (fs3_ HO534.out BK501.out) (fun _ hk => hk.1.1), by repeat (first | (with_reducible first | exact HB.out | apply below_alloc | apply pw_below_drewN | apply below_drew1 | refine below_set ?_ GE499.out | refine below_set ?_ GE500.out | refine below_set ?_ GE501.out | refine below_set ?_ GE517.out) | exact HB.out), by repeat (first | (with_reducible first | exact HK.out | apply Kept.alloc | apply Kept.drewN | apply Kept.drew | refine Kept.setCell ?_ (.inr GW499.out) _ | refine Kept.setCell ?_ (.inr GW500.out) _ | refine Kept.setCell ?_ (.inr GW501.out) _ | refine Kept.setCell ?_ (.inr GW517.out) _) | exact HK.out)⟩

end Go.Proofs.Ytfkjnpgpofcinaa.P
