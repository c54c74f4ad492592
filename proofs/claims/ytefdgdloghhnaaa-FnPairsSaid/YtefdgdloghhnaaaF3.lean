import Derived.Test.YtefdgdloghhnaaaF0
import Derived.Test.YtefdgdloghhnaaaF1
import Derived.Test.YtefdgdloghhnaaaF2
namespace Go.Proofs.Ytefdgdloghhnaaa.P
open Go.RowKit Go.Proofs.YtefdgdloghhnaaaW.PrintWords Go.Proofs.YtefdgdloghhnaaaW.PrintLast Go.Proofs.YtefdgdloghhnaaaW.PrintMore
attribute [local go_sem] max2_int min2_int max_two min_two max_three min_three max_four min_four   -- for this text's walks alone
set_option linter.unusedVariables false
set_option linter.unusedSimpArgs false
attribute [local go_sem high] eqA36

mutual
def spec_l3Step.j0 : Nat → Bool → List Int → List Int → List (S36) → Int → Int → Option (List Int × List Int × (List (S36)) × Bool)
 | 0, _, _, _, _, _, _ => none
 | k + 1, x25, x173000, x173001, x173002, x174000, x174001 => if x25 = true then (some (x173000, x173001, x173002, false)) else (if 0 ≤ x174001 then (if x174001 < (x173000.length : Int) then (if x173002.length < 8796093022208 then (some (x173000, x173001, (x173002 ++ [(⟨x174001, ((rd x173000 x174001) != 0)⟩ : S36)]), true)) else (none)) else (none)) else (none))
def spec_l3Step.j1 : Nat → Bool → List Int → List Int → List (S36) → Int → Int → Option (List Int × List Int × (List (S36)) × Bool)
 | 0, _, _, _, _, _, _ => none
 | k + 1, x50, x173000, x173001, x173002, x174000, x174001 => if x50 = true then (if x174001 < 0 then (spec_l3Step.j2 k true x173000 x173001 x173002 x174000 x174001) else (spec_l3Step.j2 k (decide (x174001 ≥ (x173002.length : Int))) x173000 x173001 x173002 x174000 x174001)) else (some (x173000, x173001, x173002, false))
def spec_l3Step.j2 : Nat → Bool → List Int → List Int → List (S36) → Int → Int → Option (List Int × List Int × (List (S36)) × Bool)
 | 0, _, _, _, _, _, _ => none
 | k + 1, x63, x173000, x173001, x173002, x174000, x174001 => if x63 = true then (some (x173000, x173001, x173002, false)) else (if 0 ≤ x174001 then (if x174001 < (x173002.length : Int) then ((some (([] : List (S36)) : List (S36))).bind fun y191 => (if x174001 ≤ (x173002.length : Int) then ((some (x173002.take (x174001 : Int).toNat : List (S36))).bind fun y194 => (if y191.length + y194.length < 8796093022208 then ((some (y191 ++ y194 : List (S36))).bind fun y198 => (if 0 ≤ (wrap64 (x174001 + 1)) then (if (wrap64 (x174001 + 1)) ≤ (x173002.length : Int) then ((some (x173002.drop ((wrap64 (x174001 + 1)) : Int).toNat : List (S36))).bind fun y201 => (if y198.length + y201.length < 8796093022208 then ((some (y198 ++ y201 : List (S36))).bind fun y205 => (if x174000 = 2 then (if 0 ≤ (wrap64 (1 - ((rd_T36 x173002 x174001).f0))) then (if (wrap64 (1 - ((rd_T36 x173002 x174001).f0))) < (x173000.length : Int) then ((spec_NextState.f (rd x173000 (wrap64 (1 - ((rd_T36 x173002 x174001).f0)))) ((rd_T36 x173002 x174001).f1)).bind fun bt209 => (if (wrap64 (1 - ((rd_T36 x173002 x174001).f0))) < (x173001.length : Int) then (some ((x173000.set ((wrap64 (1 - ((rd_T36 x173002 x174001).f0))) : Int).toNat bt209.1), (x173001.set ((wrap64 (1 - ((rd_T36 x173002 x174001).f0))) : Int).toNat 3), y205, true)) else (none))) else (none)) else (none)) else (some (x173000, x173001, y205, true)))) else (none))) else (none)) else (none))) else (none))) else (none))) else (none)) else (none))
end
def spec_l3Step.f (k : Nat) (l0_0 : List Int) (l0_1 : List Int) (l0_2 : List (S36)) (a1_0 : Int) (a1_1 : Int) : Option (List Int × List Int × (List (S36)) × Bool) := if a1_0 = 1 then ((spec_l3Side.f a1_1).bind fun t175 => (if t175 = true then (spec_l3Step.j0 k ((l0_2.length : Int) == 12) l0_0 l0_1 l0_2 a1_0 a1_1) else (spec_l3Step.j0 k true l0_0 l0_1 l0_2 a1_0 a1_1))) else (if a1_0 = 4 then ((spec_l3Tick.f k l0_0 l0_1 l0_2).bind fun bt180 => (some (bt180.1, bt180.2.1, bt180.2.2, (a1_1 == 0)))) else (if a1_0 = 2 then (spec_l3Step.j1 k (a1_0 == 2) l0_0 l0_1 l0_2 a1_0 a1_1) else (spec_l3Step.j1 k (a1_0 == 3) l0_0 l0_1 l0_2 a1_0 a1_1)))
theorem spec_l3Step.mono_l : ∀ k, (∀ y0 y1 y2 y3 y4 y5, LeO (spec_l3Step.j0 k y0 y1 y2 y3 y4 y5) (spec_l3Step.j0 (k + 1) y0 y1 y2 y3 y4 y5)) ∧ (∀ y0 y1 y2 y3 y4 y5, LeO (spec_l3Step.j1 k y0 y1 y2 y3 y4 y5) (spec_l3Step.j1 (k + 1) y0 y1 y2 y3 y4 y5)) ∧ (∀ y0 y1 y2 y3 y4 y5, LeO (spec_l3Step.j2 k y0 y1 y2 y3 y4 y5) (spec_l3Step.j2 (k + 1) y0 y1 y2 y3 y4 y5))
 | 0 => ⟨fun _ _ _ _ _ _ r h => by simp [spec_l3Step.j0] at h, fun _ _ _ _ _ _ r h => by simp [spec_l3Step.j1] at h, fun _ _ _ _ _ _ r h => by simp [spec_l3Step.j2] at h⟩
 | k + 1 => by
  obtain ⟨ih0, ih1, ih2⟩ := spec_l3Step.mono_l k
  refine ⟨?_, ?_, ?_⟩
  ·intro y0 y1 y2 y3 y4 y5
   unfold spec_l3Step.j0
   repeat' first
   | (with_reducible exact ih0 _ _ _ _ _ _)
   | (with_reducible exact ih1 _ _ _ _ _ _)
   | (with_reducible exact ih2 _ _ _ _ _ _)
   | (with_reducible exact spec_l3Tick.mono _ _ _ _)
   | with_reducible first | exact LeO.refl _ | exact LeO.none _ | refine LeO.ite ?_ ?_ | refine LeO.bind ?_ fun _ => ?_
  ·intro y0 y1 y2 y3 y4 y5
   unfold spec_l3Step.j1
   repeat' first
   | (with_reducible exact ih0 _ _ _ _ _ _)
   | (with_reducible exact ih1 _ _ _ _ _ _)
   | (with_reducible exact ih2 _ _ _ _ _ _)
   | (with_reducible exact spec_l3Tick.mono _ _ _ _)
   | with_reducible first | exact LeO.refl _ | exact LeO.none _ | refine LeO.ite ?_ ?_ | refine LeO.bind ?_ fun _ => ?_
  ·intro y0 y1 y2 y3 y4 y5
   unfold spec_l3Step.j2
   repeat' first
   | (with_reducible exact ih0 _ _ _ _ _ _)
   | (with_reducible exact ih1 _ _ _ _ _ _)
   | (with_reducible exact ih2 _ _ _ _ _ _)
   | (with_reducible exact spec_l3Tick.mono _ _ _ _)
   | with_reducible first | exact LeO.refl _ | exact LeO.none _ | refine LeO.ite ?_ ?_ | refine LeO.bind ?_ fun _ => ?_
theorem spec_l3Step.mono : ∀ a0 a1 a2 a3 a4 k, LeO (spec_l3Step.f k a0 a1 a2 a3 a4) (spec_l3Step.f (k + 1) a0 a1 a2 a3 a4) := by
 intro a0 a1 a2 a3 a4 k
 obtain ⟨ih0, ih1, ih2⟩ := spec_l3Step.mono_l k
 unfold spec_l3Step.f
 repeat' first
   | (with_reducible exact ih0 _ _ _ _ _ _)
   | (with_reducible exact ih1 _ _ _ _ _ _)
   | (with_reducible exact ih2 _ _ _ _ _ _)
   | (with_reducible exact spec_l3Tick.mono _ _ _ _)
   | with_reducible first | exact LeO.refl _ | exact LeO.none _ | refine LeO.ite ?_ ?_ | refine LeO.bind ?_ fun _ => ?_
def spec_l3Step.T6 : Bool × List (List Nat × List Nat) := (true, [([], []), ([0], [0]), ([], []), ([2], [2]), ([], []), ([4], [4]), ([], []), ([6], [6]), ([5, 7], [5, 7]), ([8], [8]), ([9], [9]), ([3, 10], [3, 10]), ([11], [11]), ([1, 12], [1, 12]), ([0, 1, 2, 3, 4, 5, 6, 7, 8, 9, 10, 11, 12, 13], []), ([14, 13, 13, 0, 1, 2, 3, 4, 5, 6, 7, 8, 9, 10, 11, 12, 13], [13, 14])])
def spec_l3Step.B6 : List Nat := [0, 1, 0, 4, 0, 16, 0, 64, 240, 496, 1008, 2044, 4092, 8191, 16383, 32767]
theorem spec_l3Step.tab6 : rtab .any (opsOf Try.f24 6) = spec_l3Step.T6 := by kernel_rfl
theorem spec_l3Step.bits6 : waitsOk spec_l3Step.T6.2 spec_l3Step.B6 = true := by kernel_rfl
def spec_l3Step.T19 : Bool × List (List Nat × List Nat) := (true, [([], []), ([0], [0]), ([], []), ([1, 2], [1, 2]), ([3], [3]), ([], []), ([5], [5]), ([4, 6], [4, 6]), ([7], [7]), ([8], [8]), ([8], [8]), ([9, 7, 0, 1, 2, 3, 4, 5, 6, 7, 8, 9], [9]), ([10, 11, 0, 1, 2, 3, 4, 5, 6, 7, 8, 9, 10, 11], [10])])
def spec_l3Step.B19 : List Nat := [0, 1, 0, 7, 15, 0, 32, 127, 255, 511, 511, 1023, 4095]
theorem spec_l3Step.tab19 : rtab .any (opsOf Try.f24 19) = spec_l3Step.T19 := by kernel_rfl
theorem spec_l3Step.bits19 : waitsOk spec_l3Step.T19.2 spec_l3Step.B19 = true := by kernel_rfl
set_option maxHeartbeats 8000000 in
set_option maxRecDepth 100000 in
theorem spec_l3Step.calls (k : Nat) (P0_0_ : Nat → Prop) (u9000_ : Value) (l0_0 : List Int) (P0_1_ : Nat → Prop) (u9001_ : Value) (l0_1 : List Int) (P0_2_ : Nat → Prop) (u9002_ : Value) (l0_2 : List (S36)) (a1_0 : Int) (a1_1 : Int) (r1 : List Int) (r2 : List Int) (r3 : List (S36)) (r4 : Bool) (w0 w : World) (hB : Below w0.heap.size w0 w) (ho0_0 : Kd.R (Kd.int .i64) 3 w w0.heap.size P0_0_ u9000_ l0_0) (hp0_0_0_1 : ∀ k_, P0_0_ k_ → ¬ P0_1_ k_) (ho0_1 : Kd.R (Kd.int .i64) 3 w w0.heap.size P0_1_ u9001_ l0_1) (hp0_1_0_0 : ∀ k_, P0_1_ k_ → ¬ P0_0_ k_) (ho0_2 : Kd.R k36 36 w w0.heap.size P0_2_ u9002_ l0_2) (h : spec_l3Step.f k l0_0 l0_1 l0_2 a1_0 a1_1 = some (r1, r2, r3, r4)) :
  Calls Try.prog 24 #[.agg #[u9000_, u9001_, u9002_], .agg #[.int .i64 a1_0, .int .i64 a1_1]] w fun e w' => ∃ v0_ v1_ v2_ : Value, e = .returned (.tuple #[.agg #[v0_, v1_, v2_], .bool r4]) ∧ Kd.R (Kd.int .i64) 3 w' w0.heap.size (fun k_ => ((P0_0_ k_ ∨ P0_1_ k_ ∨ P0_2_ k_) ∨ w.heap.size ≤ k_) ∧ no_ v1_ k_) v0_ r1 ∧ Kd.R (Kd.int .i64) 3 w' w0.heap.size (fun k_ => ((P0_0_ k_ ∨ P0_1_ k_ ∨ P0_2_ k_) ∨ w.heap.size ≤ k_) ∧ no_ v0_ k_) v1_ r2 ∧ Kd.R k36 36 w' w0.heap.size (fun k_ => ((P0_0_ k_ ∨ P0_1_ k_ ∨ P0_2_ k_) ∨ w.heap.size ≤ k_)) v2_ r3 ∧ Below w0.heap.size w0 w' ∧ Kept w w' (fun k_ => P0_0_ k_ ∨ P0_1_ k_ ∨ P0_2_ k_) := by
 have hu26 := Try.underlying26
 have hu28 := Try.underlying28
 have hu36 := Try.underlying36
 have HO0_0 := Aside0.mk (show Kd.R (Kd.int .i64) 3 w w0.heap.size (fun k_ => ((P0_0_ k_ ∨ P0_1_ k_ ∨ P0_2_ k_) ∨ w.heap.size ≤ k_) ∧ some k_ ≠ (u9001_ : Value).ownBlock) u9000_ l0_0 from Kd.R_mono ho0_0 (fun k_ hk => ⟨(.inl (.inl hk)), fun e_ => hp0_0_0_1 k_ hk (ho0_1.1 k_ e_.symm)⟩))
 have HO0_1 := Aside0.mk (show Kd.R (Kd.int .i64) 3 w w0.heap.size (fun k_ => ((P0_0_ k_ ∨ P0_1_ k_ ∨ P0_2_ k_) ∨ w.heap.size ≤ k_) ∧ some k_ ≠ (u9000_ : Value).ownBlock) u9001_ l0_1 from Kd.R_mono ho0_1 (fun k_ hk => ⟨(.inl (.inr (.inl hk))), fun e_ => hp0_1_0_0 k_ hk (ho0_0.1 k_ e_.symm)⟩))
 have HO0_2 := Aside0.mk (show Kd.R k36 36 w w0.heap.size (fun k_ => ((P0_0_ k_ ∨ P0_1_ k_ ∨ P0_2_ k_) ∨ w.heap.size ≤ k_)) u9002_ l0_2 from Kd.R_mono ho0_2 (fun k_ hk => (.inl (.inr (.inr hk)))))
 have HK := Aside0.mk (Kept.refl w (fun k_ => P0_0_ k_ ∨ P0_1_ k_ ∨ P0_2_ k_))
 have HW0 := Aside0.mk hB.size
 have HB := Aside0.mk hB
 clear hB
 have H : (if a1_0 = 1 then ((spec_l3Side.f a1_1).bind fun t175 => (if t175 = true then (spec_l3Step.j0 k ((l0_2.length : Int) == 12) l0_0 l0_1 l0_2 a1_0 a1_1) else (spec_l3Step.j0 k true l0_0 l0_1 l0_2 a1_0 a1_1))) else (if a1_0 = 4 then ((spec_l3Tick.f k l0_0 l0_1 l0_2).bind fun bt180 => (some (bt180.1, bt180.2.1, bt180.2.2, (a1_1 == 0)))) else (if a1_0 = 2 then (spec_l3Step.j1 k (a1_0 == 2) l0_0 l0_1 l0_2 a1_0 a1_1) else (spec_l3Step.j1 k (a1_0 == 3) l0_0 l0_1 l0_2 a1_0 a1_1)))) = some (r1, r2, r3, r4) := h
 clear h
 by_cases c3 : a1_0 = 1
 ·rw [if_pos c3] at H
  have c3b0 : (a1_0 == 1) = true := beq_iff_eq.mpr c3
  have c3b1 : (a1_0 != 1) = false := bne_eq_false_iff_eq.mpr c3
  clear c3
  have HC4 := Aside0.mk H
  clear H
  obtain ⟨Ao5, co5, eo5⟩ := Kd.R_slice HO0_0.out
  subst eo5
  obtain ⟨Ao6, co6, eo6⟩ := Kd.R_slice HO0_1.out
  subst eo6
  obtain ⟨Ao7, co7, eo7⟩ := Kd.R_slice HO0_2.out
  subst eo7
  go_enter Try.func24, Try.ntmps24
  go_upto_region 4 with (first | ((with_reducible refine gate_dst (N := 2) rfl ?_); (try (refine gate_guard (by rfl) ?_; dsimp only)); refine bx_ev 2 #[.slice Ao5 l0_0.length co5, .slice Ao6 l0_1.length co6, .slice Ao7 l0_2.length co7] 26 ?_; intro gb172 hg w8 hbox hb; have BK172 := Aside0.mk (hbox); have GW172 := Aside0.mk ((by rw [hg]; exact (by first | exact HK.out.1 | exact (show Kept w _ (fun k_ => P0_0_ k_ ∨ P0_1_ k_ ∨ P0_2_ k_) from hk_ HK).1) : w.heap.size ≤ gb172)); have GE172 := gw_ hg HB; replace HO0_0 := rb_ HO0_0 hb; replace HO0_1 := rb_ HO0_1 hb; replace HO0_2 := rb_ HO0_2 hb; replace HK := Aside0.mk (Kept.below (S := (fun k_ => P0_0_ k_ ∨ P0_1_ k_ ∨ P0_2_ k_)) (hk_ HK) hb); replace HB := bst_ HB hb; clear hb hbox hg) | ((with_reducible refine gate_dst (N := 3) rfl ?_); (try (refine gate_guard (by rfl) ?_; dsimp only)); refine bx_ev 3 #[.int .i64 a1_0, .int .i64 a1_1] 28 ?_; intro gb173 hg w9 hbox hb; have BK173 := Aside0.mk (hbox); have GW173 := Aside0.mk ((by rw [hg]; exact (by first | exact HK.out.1 | exact (show Kept w _ (fun k_ => P0_0_ k_ ∨ P0_1_ k_ ∨ P0_2_ k_) from hk1_ HK GW172).1) : w.heap.size ≤ gb173)); have GE173 := gw_ hg HB; have NB172_173 := nl_ hg BK172; have NB173_172 := ng_ hg BK172; replace HO0_0 := rb_ HO0_0 hb; replace HO0_1 := rb_ HO0_1 hb; replace HO0_2 := rb_ HO0_2 hb; replace BK172 := bb_ BK172 hb; replace HK := Aside0.mk (Kept.below (S := (fun k_ => P0_0_ k_ ∨ P0_1_ k_ ∨ P0_2_ k_)) (hk1_ HK GW172) hb); replace HB := bst_ HB hb; clear hb hbox hg) | ((with_reducible refine gate_dst (N := 4) rfl ?_); (try (refine gate_guard (by rfl) ?_; dsimp only)); refine bx_ev 4 #[.slice none 0 0, .slice none 0 0, .slice none 0 0] 26 ?_; intro gb174 hg w10 hbox hb; have BK174 := Aside0.mk (hbox); have GW174 := Aside0.mk ((by rw [hg]; exact (by first | exact HK.out.1 | exact (show Kept w _ (fun k_ => P0_0_ k_ ∨ P0_1_ k_ ∨ P0_2_ k_) from hk2_ HK GW172 GW173).1) : w.heap.size ≤ gb174)); have GE174 := gw_ hg HB; have NB172_174 := nl_ hg BK172; have NB174_172 := ng_ hg BK172; have NB173_174 := nl_ hg BK173; have NB174_173 := ng_ hg BK173; replace HO0_0 := rb_ HO0_0 hb; replace HO0_1 := rb_ HO0_1 hb; replace HO0_2 := rb_ HO0_2 hb; replace BK172 := bb_ BK172 hb; replace BK173 := bb_ BK173 hb; replace HK := Aside0.mk (Kept.below (S := (fun k_ => P0_0_ k_ ∨ P0_1_ k_ ∨ P0_2_ k_)) (hk2_ HK GW172 GW173) hb); replace HB := bst_ HB hb; clear hb hbox hg; obtain ⟨hnb11, hnc11⟩ := nn_ NB173_172; obtain ⟨hnb12, hnc12⟩ := nn_ NB173_174; obtain ⟨hcz13_0, hcz13_1⟩ := bcs2_ BK173))
  (try simp only [Act.put, List.setIfInBounds_toArray, List.set_cons_zero, List.set_cons_succ])
  go_cut [25] (fun v25 wc => ∃ (kq : Nat) (x25_3 : Bool), v25 = .bool x25_3 ∧ Aside0 (spec_l3Step.j0 kq x25_3 l0_0 l0_1 l0_2 a1_0 a1_1 = some (r1, r2, r3, r4)) ∧ Aside0 (kq ≤ k) ∧ Aside0 (Kd.R (Kd.int .i64) 3 wc w0.heap.size (fun k_ => ((P0_0_ k_ ∨ P0_1_ k_ ∨ P0_2_ k_) ∨ w.heap.size ≤ k_) ∧ no_ (.slice Ao6 l0_1.length co6) k_) (.slice Ao5 l0_0.length co5) l0_0) ∧ Aside0 (Kd.R (Kd.int .i64) 3 wc w0.heap.size (fun k_ => ((P0_0_ k_ ∨ P0_1_ k_ ∨ P0_2_ k_) ∨ w.heap.size ≤ k_) ∧ no_ (.slice Ao5 l0_0.length co5) k_) (.slice Ao6 l0_1.length co6) l0_1) ∧ Aside0 (Kd.R k36 36 wc w0.heap.size (fun k_ => ((P0_0_ k_ ∨ P0_1_ k_ ∨ P0_2_ k_) ∨ w.heap.size ≤ k_)) (.slice Ao7 l0_2.length co7) l0_2) ∧ Aside0 (wc.heap[gb172]? = some (.cells #[(.slice Ao5 l0_0.length co5), (.slice Ao6 l0_1.length co6), (.slice Ao7 l0_2.length co7)] 26 (0, 0))) ∧ Aside0 (wc.heap[gb173]? = some (.cells #[.int .i64 a1_0, .int .i64 a1_1] 28 (0, 0))) ∧ Aside0 (wc.heap[gb174]? = some (.cells #[(.slice none 0 0), (.slice none 0 0), (.slice none 0 0)] 26 (0, 0))) ∧ Aside0 (Kept w wc (fun k_ => P0_0_ k_ ∨ P0_1_ k_ ∨ P0_2_ k_)) ∧ Aside0 (Below w0.heap.size w0 wc))
  case first =>
   have H := HC4.out
   clear HC4
   replace H := Option.bind_eq_some_iff.mp H
   obtain ⟨t175, A140, H⟩ := H
   replace H : (if t175 = true then (spec_l3Step.j0 k ((l0_2.length : Int) == 12) l0_0 l0_1 l0_2 a1_0 a1_1) else (spec_l3Step.j0 k true l0_0 l0_1 l0_2 a1_0 a1_1)) = some (r1, r2, r3, r4) := H
   have A14 := Aside0.mk A140
   clear A140
   by_cases c15 : t175 = true
   rotate_left
   ·replace c15 := Bool.eq_false_iff.mpr c15
    subst c15
    rw [if_neg (show ¬ (false = true) by decide)] at H
    have H' := Aside0.mk H
    clear H
    obtain ⟨hnb21, hnc21⟩ := nn_ NB173_172
    obtain ⟨hnb22, hnc22⟩ := nn_ NB173_174
    obtain ⟨hcz23_0, hcz23_1⟩ := bcs2_ BK173
    obtain ⟨hfz23_0, hfz23_1⟩ := bz2_ BK173
    go_wp2_with (first | ((with_reducible refine gate_dst (N := 18) rfl ?_); refine goesL_ (some 18) rfl rfl Try.func29 (by kernel_rfl) rfl #[.int .i64 a1_1] rfl tm_ ?_; (with_reducible refine (spec_l3Side.calls a1_1 false _ A14.out).mono ?_); rintro e w' ⟨rfl, ⟨nd, rfl⟩⟩; refine ⟨_, rfl, ?_⟩))
    go_meet
    case rel => exact ⟨_, (true), (by first | rfl | (simp; done) | (simp [*]; done)), H', ⟨by first | omega | exact Nat.le_refl _⟩, ⟨ra HO0_0.out⟩, ⟨ra HO0_1.out⟩, ⟨ra HO0_2.out⟩, ⟨bw0_ BK172⟩, ⟨bw0_ BK173⟩, ⟨bw0_ BK174⟩, ⟨hk3_ HK GW172 GW173 GW174⟩, ⟨hB HB⟩⟩
   subst c15
   rw [if_pos rfl] at H
   have H' := Aside0.mk H
   clear H
   obtain ⟨hnb16, hnc16⟩ := nn_ NB173_172
   obtain ⟨hnb17, hnc17⟩ := nn_ NB173_174
   obtain ⟨hcz18_0, hcz18_1⟩ := bcs2_ BK173
   obtain ⟨hfz18_0, hfz18_1⟩ := bz2_ BK173
   go_wp2_with (first | ((with_reducible refine gate_dst (N := 18) rfl ?_); refine goesL_ (some 18) rfl rfl Try.func29 (by kernel_rfl) rfl #[.int .i64 a1_1] rfl tm_ ?_; (with_reducible refine (spec_l3Side.calls a1_1 true _ A14.out).mono ?_); rintro e w' ⟨rfl, ⟨nd, rfl⟩⟩; refine ⟨_, rfl, ?_⟩; obtain ⟨hnb19, hnc19⟩ := nn_ NB172_174; obtain ⟨hcz20_0, hcz20_1, hcz20_2⟩ := bcs3_ BK172; obtain ⟨hfz20_0, hfz20_1, hfz20_2⟩ := bz3_ BK172))
   go_meet
   case rel => exact ⟨_, (((l0_2.length : Int) == 12)), (by first | rfl | (simp; done) | (simp [*]; done)), H', ⟨by first | omega | exact Nat.le_refl _⟩, ⟨ra HO0_0.out⟩, ⟨ra HO0_1.out⟩, ⟨ra HO0_2.out⟩, ⟨bw0_ BK172⟩, ⟨bw0_ BK173⟩, ⟨bw0_ BK174⟩, ⟨hk3_ HK GW172 GW173 GW174⟩, ⟨hB HB⟩⟩
  case rest =>
   clear HC4
   try clear c3
   try clear c3b0
   try clear c3b1
   try clear hcz13_0
   try clear hcz13_1
   try clear hfz13_0
   try clear hfz13_1
   obtain ⟨kq, x25_3, rfl, HA, HJ3, HO_173000, HO_173001, HO_173002, BK172, BK173, BK174, HK, HB⟩ := hcut
   cases kq with
   | zero => exact absurd HA.out (by simp [spec_l3Step.j0])
   | succ kj3 =>
    have H := HA.out
    clear HA
    simp only [spec_l3Step.j0] at H
    by_cases c24 : x25_3 = true
    ·subst c24
     rw [if_pos rfl] at H
     simp only [Option.some.injEq, Prod.mk.injEq] at H
     obtain ⟨rfl, rfl, rfl, rfl⟩ := H
     obtain ⟨hnb25, hnc25⟩ := nn_ NB172_173
     obtain ⟨hnb26, hnc26⟩ := nn_ NB172_174
     obtain ⟨hcz27_0, hcz27_1, hcz27_2⟩ := bcs3_ BK172
     obtain ⟨hfz27_0, hfz27_1, hfz27_2⟩ := bz3_ BK172
     obtain ⟨hnb28, hnc28⟩ := nn_ NB174_173
     obtain ⟨hcz29_0, hcz29_1, hcz29_2⟩ := bcs3_ BK174
     obtain ⟨hfz29_0, hfz29_1, hfz29_2⟩ := bz3_ BK174
     go_wp2
     refine bodyPost_ret (results_ct rfl _ _ gb174 26 #[.slice Ao5 l0_0.length co5, .slice Ao6 l0_1.length co6, .slice Ao7 l0_2.length co7] (0, 0) _ rfl (bw0_ BK174) Try.underlying26 rfl (by kernel_rfl)) rfl ?_
     exact ⟨_, _, _, rt_, ro_ (fs3_ HO_173000.out BK174.out) (fun _ hk => hk.1), ro_ (fs3_ HO_173001.out BK174.out) (fun _ hk => hk.1), ro_ (fs3_ HO_173002.out BK174.out) (fun _ hk => hk.1), hB HB, hk3_ HK GW172 GW173 GW174⟩
    replace c24 := Bool.eq_false_iff.mpr c24
    subst c24
    rw [if_neg (show ¬ (false = true) by decide)] at H
    by_cases c30 : 0 ≤ a1_1
    rotate_left
    ·rw [if_neg c30] at H
     exact absurd H (by simp)
    rw [if_pos c30] at H
    have c30b0 : decide (0 ≤ a1_1) = true := decide_eq_true c30
    clear c30
    by_cases c31 : a1_1 < (l0_0.length : Int)
    rotate_left
    ·rw [if_neg c31] at H
     exact absurd H (by simp)
    rw [if_pos c31] at H
    have c31b0 : decide (a1_1 < (l0_0.length : Int)) = true := decide_eq_true c31
    clear c31
    by_cases c32 : l0_2.length < 8796093022208
    rotate_left
    ·rw [if_neg c32] at H
     exact absurd H (by simp)
    rw [if_pos c32] at H
    have LMc32 := Aside0.mk c32
    clear c32
    obtain ⟨y177, hy177⟩ : ∃ y_ : List (S36), y_ = (l0_2 ++ [(⟨a1_1, ((rd l0_0 a1_1) != 0)⟩ : S36)]) := ⟨_, rfl⟩
    replace H : (some (l0_0, l0_1, y177, true)) = some (r1, r2, r3, r4) := by first | (rw [hy177]; with_reducible exact H) | (have H2_ := (Option.bind_some _ _).symm.trans H; rw [hy177]; with_reducible exact H2_) | (have H2_ := (Option.bind_some _ _).symm.trans H; with_reducible exact H2_) | with_reducible exact H | (rw [hy177]; exact H) | exact H
    have Ny177 := Aside0.mk hy177
    clear hy177
    simp only [Option.some.injEq, Prod.mk.injEq] at H
    obtain ⟨rfl, rfl, rfl, rfl⟩ := H
    try go_wp2
    replace HO_173000 := rd_ HO_173000
    replace HO_173001 := rd_ HO_173001
    replace HO_173002 := rd_ HO_173002
    replace BK172 := bd_ BK172
    replace BK173 := bd_ BK173
    replace BK174 := bd_ BK174
    replace HK := Aside0.mk (Kept.drew HK.out)
    replace HB := Aside0.mk (below_drew1 HB.out)
    have p176 : 0 ≤ (a1_1 : Int) := od_
    have q176 : a1_1 < (l0_0.length : Int) := od_
    obtain ⟨ad176, e176, hx176_0⟩ := Kd.at_int (Kd.R_reads' HO_173000.out).2.2 a1_1 p176 q176
    cases e176
    replace p176 := eq_true p176
    replace q176 := eq_true q176
    refine start_ (n := 16) (S := fun w' => w'.cell? ⟨gb172, 0, none⟩ = some (.slice (some ad176) l0_0.length co5) ∧ w'.cell? ⟨gb172, 1, none⟩ = some (.slice Ao6 l0_1.length co6) ∧ w'.cell? ⟨gb172, 2, none⟩ = some (.slice Ao7 l0_2.length co7) ∧ w'.cell? ⟨gb173, 0, none⟩ = some (.int .i64 a1_0) ∧ w'.cell? ⟨gb173, 1, none⟩ = some (.int .i64 a1_1) ∧ w'.cell? (ad176.add (a1_1).toNat) = some (.int .i64 (rd l0_0 a1_1))) (ds := [13, 15]) (bs 16 0) (by kernel_rfl) rfl rfl ⟨bc_ BK172 0, bc_ BK172 1, bc_ BK172 2, bc_ BK173 0, bc_ BK173 1, hx176_0⟩ (fun hHeld => ?_); refine with_tabW spec_l3Step.tab6 spec_l3Step.bits6 (fun HT_ HW_ => ?_)
    generalize wc.drew = w33 at HO_173000 HO_173001 HO_173002 BK172 BK173 BK174 HK HB hx176_0 hHeld ⊢
    refine pu_ 0 27 (bs 16 1) HT_ ?_
    refine pu_ 2 29 (bs 16 5) HT_ ?_
    refine pu_ 4 31 (bs 16 21) HT_ ?_
    refine pu_ 6 33 (bs 16 85) HT_ ?_
    refine tk_ 1 28 (bs 16 87) HT_ HW_ hHeld ?_
    refine tk_ 3 30 (bs 16 95) HT_ HW_ hHeld ?_
    refine tk_ 5 32 (bs 16 127) HT_ HW_ hHeld ?_
    refine tk_ 7 34 (bs 16 255) HT_ HW_ hHeld ?_
    refine pu_ 8 35 (bs 16 511) HT_ ?_
    refine tk_ 9 36 (bs 16 1023) HT_ HW_ hHeld ?_
    refine pu_ 10 37 (bs 16 2047) HT_ ?_
    refine pu_ 11 38 (bs 16 4095) HT_ ?_
    refine on_ 12 (some 39) (bs 16 8191) HT_ (fun K hK => ?_)
    refine value_ (w1 := ?_) (v := ?_) (by rfl) rfl ?_ ?_
    rotate_left 2
    ·go_simp
     constructor
     ·rfl
     ·rfl
    refine hK.out _ _ ⟨(blk_cell (blk_alloc BK172.out _) 0).trans rfl, (blk_cell (blk_alloc BK172.out _) 1).trans rfl, (blk_cell (blk_alloc BK172.out _) 2).trans rfl, (blk_cell (blk_alloc BK173.out _) 0).trans rfl, (blk_cell (blk_alloc BK173.out _) 1).trans rfl, (World.cell?_alloc_lt _ _ _ (World.block_lt_of_cell? _ _ (hHeld.2.2.2.2.2))).trans (hHeld.2.2.2.2.2)⟩ (fun hHeld => ?_)
    clear hK K
    refine nm_ 39 ?_
    refine last_ (i := 13) (N := some 40) (bs 16 16383) rfl rfl (one_of HT_.out (by kernel_rfl)) (by decide) (fun K hK => ?_)
    refine Kd.R_append_step k36 (w0 := w0) w0.heap.size (by rfl) (.tmp 28) (.tmp 39) 24 36 (.agg #[(.int .i64 0), (.bool false)]) 16 rfl Try.underlying24 info36 rfl (by decide) (by omega) (.slice Ao7 l0_2.length co7) l0_2 (⟨a1_1, ((rd l0_0 a1_1) != 0)⟩ : S36) [.int .i64 a1_1, .bool ((rd l0_0 a1_1) != 0)] (fun k_ => ((P0_0_ k_ ∨ P0_1_ k_ ∨ P0_2_ k_) ∨ w.heap.size ≤ k_)) (fun _ => False) rfl rfl ?aP (fun _ hk => hk.elim) ?aF ?aO ?aB ?aS ?aL ?_
    (case aP => exact k36_mkM _ _ _ (⟨a1_1, ((rd l0_0 a1_1) != 0)⟩ : S36))
    (case aB => exact (hB HB))
    (case aF => exact (fun k_ hk => (.inr (Nat.le_trans (by first | exact HK.out.1 | exact (show Kept w _ (fun k_ => P0_0_ k_ ∨ P0_1_ k_ ∨ P0_2_ k_) from hk3_ HK GW172 GW173 GW174).1) hk))))
    (case aO => exact (ra HO_173002.out))
    (case aS => exact (below_size (hB HB)))
    (case aL => have := LMc32.out; omega)
    intro v178 w34 ho hb hg hat
    rw [← Ny177.out] at ho
    have HO179 := Aside0.mk (ho)
    replace HO_173000 := Aside0.mk (Kd.R_over' (ra HO_173000.out) (Kd.R_typed (ra HO_173002.out)) (by decide) hg)
    replace HO_173001 := Aside0.mk (Kd.R_over' (ra HO_173001.out) (Kd.R_typed (ra HO_173002.out)) (by decide) hg)
    replace BK172 := Aside0.mk (blk_grown (g := gb172) (o := .cells #[.slice (some ad176) l0_0.length co5, .slice Ao6 l0_1.length co6, .slice Ao7 l0_2.length co7] 26 (0, 0)) (ba BK172.out) hg (Kd.R_ne HO_173002.out BK172.out (by decide)))
    replace BK173 := Aside0.mk (blk_grown (g := gb173) (o := .cells #[.int .i64 a1_0, .int .i64 a1_1] 28 (0, 0)) (ba BK173.out) hg (Kd.R_ne HO_173002.out BK173.out (by decide)))
    replace BK174 := Aside0.mk (blk_grown (g := gb174) (o := .cells #[.slice none 0 0, .slice none 0 0, .slice none 0 0] 26 (0, 0)) (ba BK174.out) hg (Kd.R_ne HO_173002.out BK174.out (by decide)))
    replace HB := Aside0.mk (hb)
    replace HK := Aside0.mk (Kept.of_grown (S := (fun k_ => P0_0_ k_ ∨ P0_1_ k_ ∨ P0_2_ k_)) hg (hk3_ HK GW172 GW173 GW174) (fun k_ e_ => (HO_173002.out.1 k_ e_)))
    clear HO_173002
    clear ho hb hg hat
    obtain ⟨Ao35, co35, eo35⟩ := Kd.R_slice HO179.out
    subst eo35
    refine hK.out _ _ ?_
    clear hK K
    refine nm_ 40 ?_
    refine pu_ 14 41 (bs 16 32767) HT_ ?_
    refine last_ (i := 15) (N := none) (bs 16 65535) rfl rfl (one_of HT_.out (by kernel_rfl)) (by decide) (fun K hK => ?_)
    have hs36 : w34.cell? ⟨gb172, 2, none⟩ = some (.slice Ao7 l0_2.length co7) := bc_ BK172 2
    have hfs36 := bz_ BK172 2
    have hns36_1 := NB173_172.out
    have hns36_2 := NB174_172.out
    have hms36_1 := NB172_173.out
    have hms36_2 := NB172_174.out
    refine skip_ (w1 := ?_) (by rfl) rfl ?_ ?_
    rotate_left
    ·go_simp
     rfl
    refine hK.out _ _ ?_
    clear hK K
    refine done_ (done_of HT_.out (by kernel_rfl)) ?_
    obtain ⟨hnb37, hnc37⟩ := nn_ NB172_173
    obtain ⟨hnb38, hnc38⟩ := nn_ NB172_174
    obtain ⟨hcz39_0, hcz39_1, hcz39_2⟩ := bcs3_ BK172
    obtain ⟨hfz39_0, hfz39_1, hfz39_2⟩ := bz3_ BK172
    obtain ⟨hnb40, hnc40⟩ := nn_ NB174_173
    obtain ⟨hcz41_0, hcz41_1, hcz41_2⟩ := bcs3_ BK174
    obtain ⟨hfz41_0, hfz41_1, hfz41_2⟩ := bz3_ BK174
    try go_wp2
    refine bodyPost_ret (results_ct rfl _ _ gb174 26 #[.slice (some ad176) l0_0.length co5, .slice Ao6 l0_1.length co6, .slice Ao35 y177.length co35] (0, 0) _ rfl (bw1_ BK174 NB174_172) Try.underlying26 rfl (by kernel_rfl)) rfl ?_
    exact ⟨_, _, _, rt_, ro_ (Kd.R_far (p := ⟨gb174, 2, none⟩) (Kd.R_far (p := ⟨gb174, 1, none⟩) (Kd.R_far (p := ⟨gb174, 0, none⟩) (Kd.R_far (p := ⟨gb172, 2, none⟩) (Kd.R_types (Kd.R_types HO_173000.out BK172.out (by decide)) BK174.out (by decide)) (fun _ hk => hk.1.2) (.slice Ao35 y177.length co35)) (fun _ hk => hk.2) (.slice (some ad176) l0_0.length co5)) (fun _ hk => hk.2) (.slice Ao6 l0_1.length co6)) (fun _ hk => hk.2) (.slice Ao35 y177.length co35)) (fun _ hk => hk.1.1), ro_ (Kd.R_far (p := ⟨gb174, 2, none⟩) (Kd.R_far (p := ⟨gb174, 1, none⟩) (Kd.R_far (p := ⟨gb174, 0, none⟩) (Kd.R_far (p := ⟨gb172, 2, none⟩) (Kd.R_types (Kd.R_types HO_173001.out BK172.out (by decide)) BK174.out (by decide)) (fun _ hk => hk.1.2) (.slice Ao35 y177.length co35)) (fun _ hk => hk.2) (.slice (some ad176) l0_0.length co5)) (fun _ hk => hk.2) (.slice Ao6 l0_1.length co6)) (fun _ hk => hk.2) (.slice Ao35 y177.length co35)) (fun _ hk => hk.1.1), ro_ (Kd.R_far (p := ⟨gb174, 2, none⟩) (Kd.R_far (p := ⟨gb174, 1, none⟩) (Kd.R_far (p := ⟨gb174, 0, none⟩) (Kd.R_far (p := ⟨gb172, 2, none⟩) (Kd.R_types (Kd.R_types HO179.out BK172.out (by decide)) BK174.out (by decide)) (fun _ hk => hk.1.2) (.slice Ao35 y177.length co35)) (fun _ hk => hk.2) (.slice (some ad176) l0_0.length co5)) (fun _ hk => hk.2) (.slice Ao6 l0_1.length co6)) (fun _ hk => hk.2) (.slice Ao35 y177.length co35)) (fun _ hk => hk.1.1), hB HB, hk3_ HK GW172 GW173 GW174⟩
 rw [if_neg c3] at H
 have c3b0 : (a1_0 == 1) = false := beq_eq_false_iff_ne.mpr c3
 have c3b1 : (a1_0 != 1) = true := bne_iff_ne.mpr c3
 by_cases c42 : a1_0 = 4
 ·rw [if_pos c42] at H
  have c42b0 : (a1_0 == 4) = true := beq_iff_eq.mpr c42
  have c42b1 : (a1_0 != 4) = false := bne_eq_false_iff_eq.mpr c42
  clear c42
  replace H := Option.bind_eq_some_iff.mp H
  obtain ⟨⟨t180, t183, t186⟩, A430, H⟩ := H
  replace H : (some (t180, t183, t186, (a1_1 == 0))) = some (r1, r2, r3, r4) := H
  have A43 := Aside0.mk A430
  clear A430
  simp only [Option.some.injEq, Prod.mk.injEq] at H
  obtain ⟨rfl, rfl, rfl, rfl⟩ := H
  obtain ⟨Ao44, co44, eo44⟩ := Kd.R_slice HO0_0.out
  subst eo44
  obtain ⟨Ao45, co45, eo45⟩ := Kd.R_slice HO0_1.out
  subst eo45
  obtain ⟨Ao46, co46, eo46⟩ := Kd.R_slice HO0_2.out
  subst eo46
  go_enter Try.func24, Try.ntmps24
  try go_wp2_with (first | ((with_reducible refine gate_dst (N := 2) rfl ?_); (try (refine gate_guard (by rfl) ?_; dsimp only)); refine bx_ev 2 #[.slice Ao44 l0_0.length co44, .slice Ao45 l0_1.length co45, .slice Ao46 l0_2.length co46] 26 ?_; intro gb172 hg w47 hbox hb; have BK172 := Aside0.mk (hbox); have GW172 := Aside0.mk ((by rw [hg]; exact (by first | exact HK.out.1 | exact (show Kept w _ (fun k_ => P0_0_ k_ ∨ P0_1_ k_ ∨ P0_2_ k_) from hk_ HK).1) : w.heap.size ≤ gb172)); have GE172 := gw_ hg HB; replace HO0_0 := rb_ HO0_0 hb; replace HO0_1 := rb_ HO0_1 hb; replace HO0_2 := rb_ HO0_2 hb; replace HK := Aside0.mk (Kept.below (S := (fun k_ => P0_0_ k_ ∨ P0_1_ k_ ∨ P0_2_ k_)) (hk_ HK) hb); replace HB := bst_ HB hb; clear hb hbox hg) | ((with_reducible refine gate_dst (N := 3) rfl ?_); (try (refine gate_guard (by rfl) ?_; dsimp only)); refine bx_ev 3 #[.int .i64 a1_0, .int .i64 a1_1] 28 ?_; intro gb173 hg w48 hbox hb; have BK173 := Aside0.mk (hbox); have GW173 := Aside0.mk ((by rw [hg]; exact (by first | exact HK.out.1 | exact (show Kept w _ (fun k_ => P0_0_ k_ ∨ P0_1_ k_ ∨ P0_2_ k_) from hk1_ HK GW172).1) : w.heap.size ≤ gb173)); have GE173 := gw_ hg HB; have NB172_173 := nl_ hg BK172; have NB173_172 := ng_ hg BK172; replace HO0_0 := rb_ HO0_0 hb; replace HO0_1 := rb_ HO0_1 hb; replace HO0_2 := rb_ HO0_2 hb; replace BK172 := bb_ BK172 hb; replace HK := Aside0.mk (Kept.below (S := (fun k_ => P0_0_ k_ ∨ P0_1_ k_ ∨ P0_2_ k_)) (hk1_ HK GW172) hb); replace HB := bst_ HB hb; clear hb hbox hg) | ((with_reducible refine gate_dst (N := 4) rfl ?_); (try (refine gate_guard (by rfl) ?_; dsimp only)); refine bx_ev 4 #[.slice none 0 0, .slice none 0 0, .slice none 0 0] 26 ?_; intro gb174 hg w49 hbox hb; have BK174 := Aside0.mk (hbox); have GW174 := Aside0.mk ((by rw [hg]; exact (by first | exact HK.out.1 | exact (show Kept w _ (fun k_ => P0_0_ k_ ∨ P0_1_ k_ ∨ P0_2_ k_) from hk2_ HK GW172 GW173).1) : w.heap.size ≤ gb174)); have GE174 := gw_ hg HB; have NB172_174 := nl_ hg BK172; have NB174_172 := ng_ hg BK172; have NB173_174 := nl_ hg BK173; have NB174_173 := ng_ hg BK173; replace HO0_0 := rb_ HO0_0 hb; replace HO0_1 := rb_ HO0_1 hb; replace HO0_2 := rb_ HO0_2 hb; replace BK172 := bb_ BK172 hb; replace BK173 := bb_ BK173 hb; replace HK := Aside0.mk (Kept.below (S := (fun k_ => P0_0_ k_ ∨ P0_1_ k_ ∨ P0_2_ k_)) (hk2_ HK GW172 GW173) hb); replace HB := bst_ HB hb; clear hb hbox hg; obtain ⟨hnb50, hnc50⟩ := nn_ NB173_172; obtain ⟨hnb51, hnc51⟩ := nn_ NB173_174; obtain ⟨hcz52_0, hcz52_1⟩ := bcs2_ BK173))
  replace HO0_0 := rd_ HO0_0
  replace HO0_1 := rd_ HO0_1
  replace HO0_2 := rd_ HO0_2
  replace BK172 := bd_ BK172
  replace BK173 := bd_ BK173
  replace BK174 := bd_ BK174
  replace HK := Aside0.mk (Kept.drew HK.out)
  replace HB := Aside0.mk (below_drew1 HB.out)
  refine start_ (n := 7) (S := fun w' => w'.cell? ⟨gb172, 0, none⟩ = some (.slice Ao44 l0_0.length co44) ∧ w'.cell? ⟨gb172, 1, none⟩ = some (.slice Ao45 l0_1.length co45) ∧ w'.cell? ⟨gb172, 2, none⟩ = some (.slice Ao46 l0_2.length co46) ∧ w'.cell? ⟨gb173, 0, none⟩ = some (.int .i64 a1_0) ∧ w'.cell? ⟨gb173, 1, none⟩ = some (.int .i64 a1_1)) (ds := []) (bs 7 0) (by kernel_rfl) rfl rfl ⟨bc_ BK172 0, bc_ BK172 1, bc_ BK172 2, bc_ BK173 0, bc_ BK173 1⟩ (fun hHeld => ?_)
  generalize w49.drew = w53 at HO0_0 HO0_1 HO0_2 BK172 BK173 BK174 HK HB hHeld ⊢
  refine pure_ (i := 2) (N := some 47) (v := ?_) (a' := ?_) (bs 7 4) rfl rfl (by kernel_rfl) (fun _ _ _ h => h) (Or.inl ⟨by rfl, ?_⟩) ?_ ?_
  rotate_left
  ·intro w'
   go_simp
   with_reducible rfl
  rotate_left
  ·simp only [Act.put, List.setIfInBounds_toArray, List.set_cons_zero, List.set_cons_succ, i64_w, i32_w]
   rfl
  refine take_ (i := 0) (N := some 45) (v := ?_) (a' := ?_) (bs 7 5) rfl rfl (by kernel_rfl) (fun _ _ _ h => h) (Or.inl ⟨by rfl, ?_⟩) hHeld ?_ ?_
  rotate_left
  ·rintro w' ⟨s0, s1, s2, s3, s4⟩
   go_simp
   with_reducible rfl
  rotate_left
  ·simp only [Act.put, List.setIfInBounds_toArray, List.set_cons_zero, List.set_cons_succ, i64_w, i32_w]
   rfl
  refine take_ (i := 3) (N := some 48) (v := ?_) (a' := ?_) (bs 7 13) rfl rfl (by kernel_rfl) (fun _ _ _ h => h) (Or.inl ⟨by rfl, ?_⟩) hHeld ?_ ?_
  rotate_left
  ·rintro w' ⟨s0, s1, s2, s3, s4⟩
   go_simp
   with_reducible rfl
  rotate_left
  ·simp only [Act.put, List.setIfInBounds_toArray, List.set_cons_zero, List.set_cons_succ, i64_w, i32_w]
   rfl
  refine pure_ (i := 4) (N := some 49) (v := ?_) (a' := ?_) (bs 7 29) rfl rfl (by kernel_rfl) (fun _ _ _ h => h) (Or.inl ⟨by rfl, ?_⟩) ?_ ?_
  rotate_left
  ·intro w'
   go_simp
   with_reducible rfl
  rotate_left
  ·simp only [Act.put, List.setIfInBounds_toArray, List.set_cons_zero, List.set_cons_succ, i64_w, i32_w]
   rfl
  refine one_ (i := 1) (N := some 46) (bs 7 31) rfl rfl (by kernel_rfl) (by decide) (fun K hK => ?_)
  refine goes_ Try.func38 (by kernel_rfl) rfl #[.agg #[.slice Ao44 l0_0.length co44, .slice Ao45 l0_1.length co45, .slice Ao46 l0_2.length co46]] (by rfl) rfl rfl tm_ ?_
  with_reducible refine (spec_l3Tick.calls k (fun k_ => some k_ = (.slice Ao44 l0_0.length co44 : Value).ownBlock) (.slice Ao44 l0_0.length co44) l0_0 (fun k_ => some k_ = (.slice Ao45 l0_1.length co45 : Value).ownBlock) (.slice Ao45 l0_1.length co45) l0_1 (fun k_ => some k_ = (.slice Ao46 l0_2.length co46 : Value).ownBlock) (.slice Ao46 l0_2.length co46) l0_2 t180 t183 t186 w0 _ ?side1 ?side2 ?side3 ?side4 ?side5 ?side6 A43.out).mono ?_
  (case side1 => exact hB HB)
  (case side2 => exact Kd.R_tight rfl HO0_0.out)
  (case side3 => exact fun k_ e_ => (HO0_0.out.1 k_ e_.symm).2)
  (case side4 => exact Kd.R_tight rfl HO0_1.out)
  (case side5 => exact fun k_ e_ => (HO0_1.out.1 k_ e_.symm).2)
  (case side6 => exact Kd.R_tight rfl HO0_2.out)
  rintro e w54 ⟨v181, v184, v187, rfl, ho0, ho1, ho2, hb, hkp⟩
  refine ⟨_, rfl, ?_⟩
  have HO182 := Aside0.mk (Kd.R_mono (ok' := fun k_ => ((P0_0_ k_ ∨ P0_1_ k_ ∨ P0_2_ k_) ∨ w.heap.size ≤ k_) ∧ no_ v184 k_) ho0 (fun k_ hk_ => ⟨Or.elim hk_.1 (fun hs_ => Or.elim hs_ (fun hs_ => (HO0_0.out.1 k_ (hs_).symm).1) (fun hs_ => Or.elim hs_ (fun hs_ => (HO0_1.out.1 k_ (hs_).symm).1) (fun hs_ => (HO0_2.out.1 k_ (hs_).symm)))) (fun hn_ => (.inr (Nat.le_trans (by first | exact HK.out.1 | exact (show Kept w _ (fun k_ => P0_0_ k_ ∨ P0_1_ k_ ∨ P0_2_ k_) from hk3_ HK GW172 GW173 GW174).1) hn_))), hk_.2⟩))
  have HO185 := Aside0.mk (Kd.R_mono (ok' := fun k_ => ((P0_0_ k_ ∨ P0_1_ k_ ∨ P0_2_ k_) ∨ w.heap.size ≤ k_) ∧ no_ v181 k_) ho1 (fun k_ hk_ => ⟨Or.elim hk_.1 (fun hs_ => Or.elim hs_ (fun hs_ => (HO0_0.out.1 k_ (hs_).symm).1) (fun hs_ => Or.elim hs_ (fun hs_ => (HO0_1.out.1 k_ (hs_).symm).1) (fun hs_ => (HO0_2.out.1 k_ (hs_).symm)))) (fun hn_ => (.inr (Nat.le_trans (by first | exact HK.out.1 | exact (show Kept w _ (fun k_ => P0_0_ k_ ∨ P0_1_ k_ ∨ P0_2_ k_) from hk3_ HK GW172 GW173 GW174).1) hn_))), hk_.2⟩))
  have HO188 := Aside0.mk (Kd.R_mono (ok' := fun k_ => ((P0_0_ k_ ∨ P0_1_ k_ ∨ P0_2_ k_) ∨ w.heap.size ≤ k_)) ho2 (fun k_ hk_ => Or.elim hk_ (fun hs_ => Or.elim hs_ (fun hs_ => (HO0_0.out.1 k_ (hs_).symm).1) (fun hs_ => Or.elim hs_ (fun hs_ => (HO0_1.out.1 k_ (hs_).symm).1) (fun hs_ => (HO0_2.out.1 k_ (hs_).symm)))) (fun hn_ => (.inr (Nat.le_trans (by first | exact HK.out.1 | exact (show Kept w _ (fun k_ => P0_0_ k_ ∨ P0_1_ k_ ∨ P0_2_ k_) from hk3_ HK GW172 GW173 GW174).1) hn_)))))
  replace BK172 := Aside0.mk (blk_kept (ba BK172.out) hkp (fun hs_ => Or.elim hs_ (kne_ HO0_0 BK172) (fun e_ => Or.elim e_ (kne_ HO0_1 BK172) (kne_ HO0_2 BK172))))
  replace BK173 := Aside0.mk (blk_kept (ba BK173.out) hkp (fun hs_ => Or.elim hs_ (kne_ HO0_0 BK173) (fun e_ => Or.elim e_ (kne_ HO0_1 BK173) (kne_ HO0_2 BK173))))
  replace BK174 := Aside0.mk (blk_kept (ba BK174.out) hkp (fun hs_ => Or.elim hs_ (kne_ HO0_0 BK174) (fun e_ => Or.elim e_ (kne_ HO0_1 BK174) (kne_ HO0_2 BK174))))
  replace HK := Aside0.mk (Kept.then_ (S := (fun k_ => P0_0_ k_ ∨ P0_1_ k_ ∨ P0_2_ k_)) (hk3_ HK GW172 GW173 GW174) hkp (fun k_ hs_ => Or.elim hs_ (fun e_ => (fun e_ => (HO0_0.out.1 k_ e_.symm).1) e_) (fun e_ => Or.elim e_ (fun e_ => (fun e_ => (HO0_1.out.1 k_ e_.symm).1) e_) (fun e_ => (fun e_ => (HO0_2.out.1 k_ e_.symm)) e_))))
  replace HB := Aside0.mk (hb)
  clear HO0_0 HO0_1 HO0_2
  clear hb ho0 ho1 ho2
  obtain ⟨Ao55, co55, eo55⟩ := Kd.R_slice HO182.out
  subst eo55
  obtain ⟨Ao57, co57, eo57⟩ := Kd.R_slice HO185.out
  subst eo57
  obtain ⟨Ao59, co59, eo59⟩ := Kd.R_slice HO188.out
  subst eo59
  refine hK.out _ _ ⟨bc_ BK172 0, bc_ BK172 1, bc_ BK172 2, bc_ BK173 0, bc_ BK173 1⟩ (fun hHeld => ?_)
  clear hK K
  refine nm_ 46 ?_
  refine one_ (i := 5) (N := none) (bs 7 63) rfl rfl (by kernel_rfl) (by decide) (fun K hK => ?_)
  have hs56 : w54.cell? ⟨gb174, 0, none⟩ = some (.slice none 0 0) := bc_ BK174 0
  have hfs56 := bz_ BK174 0
  have hns56_0 := NB172_174.out
  have hns56_1 := NB173_174.out
  have hms56_0 := NB174_172.out
  have hms56_1 := NB174_173.out
  have hs58 : w54.cell? ⟨gb174, 1, none⟩ = some (.slice none 0 0) := bc_ BK174 1
  have hfs58 := bz_ BK174 1
  have hns58_0 := NB172_174.out
  have hns58_1 := NB173_174.out
  have hms58_0 := NB174_172.out
  have hms58_1 := NB174_173.out
  have hs60 : w54.cell? ⟨gb174, 2, none⟩ = some (.slice none 0 0) := bc_ BK174 2
  have hfs60 := bz_ BK174 2
  have hns60_0 := NB172_174.out
  have hns60_1 := NB173_174.out
  have hms60_0 := NB174_172.out
  have hms60_1 := NB174_173.out
  refine skip_ (w1 := ?_) (by rfl) rfl ?_ ?_
  rotate_left
  ·go_simp
   rfl
  refine hK.out _ _ ⟨((cell_far (p := ⟨gb174, _, none⟩) NB172_174.out _).trans (((cell_far (p := ⟨gb174, _, none⟩) NB172_174.out _).trans (((cell_far (p := ⟨gb174, _, none⟩) NB172_174.out _).trans (hHeld.1)))))), ((cell_far (p := ⟨gb174, _, none⟩) NB172_174.out _).trans (((cell_far (p := ⟨gb174, _, none⟩) NB172_174.out _).trans (((cell_far (p := ⟨gb174, _, none⟩) NB172_174.out _).trans (hHeld.2.1)))))), ((cell_far (p := ⟨gb174, _, none⟩) NB172_174.out _).trans (((cell_far (p := ⟨gb174, _, none⟩) NB172_174.out _).trans (((cell_far (p := ⟨gb174, _, none⟩) NB172_174.out _).trans (hHeld.2.2.1)))))), ((cell_far (p := ⟨gb174, _, none⟩) NB173_174.out _).trans (((cell_far (p := ⟨gb174, _, none⟩) NB173_174.out _).trans (((cell_far (p := ⟨gb174, _, none⟩) NB173_174.out _).trans (hHeld.2.2.2.1)))))), ((cell_far (p := ⟨gb174, _, none⟩) NB173_174.out _).trans (((cell_far (p := ⟨gb174, _, none⟩) NB173_174.out _).trans (((cell_far (p := ⟨gb174, _, none⟩) NB173_174.out _).trans (hHeld.2.2.2.2))))))⟩ (fun hHeld => ?_)
  clear hK K
  refine pure_ (i := 6) (N := some 5) (v := ?_) (a' := ?_) (bs 7 127) rfl rfl (by kernel_rfl) (fun _ _ _ h => h) (Or.inl ⟨by rfl, ?_⟩) ?_ ?_
  rotate_left
  ·intro w'
   go_simp
   with_reducible rfl
  rotate_left
  ·simp only [Act.put, List.setIfInBounds_toArray, List.set_cons_zero, List.set_cons_succ, i64_w, i32_w]
   rfl
  refine done_ (by kernel_rfl) ?_
  try go_wp2
  refine bodyPost_ret (results_ct rfl _ _ gb174 26 #[.slice Ao55 t180.length co55, .slice Ao57 t183.length co57, .slice Ao59 t186.length co59] (0, 0) _ rfl (bw0_ BK174) Try.underlying26 rfl (by kernel_rfl)) rfl ?_
  exact ⟨_, _, _, rt_, ro_ (fs3_ HO182.out BK174.out) (fun _ hk => hk.1), ro_ (fs3_ HO185.out BK174.out) (fun _ hk => hk.1), ro_ (fs3_ HO188.out BK174.out) (fun _ hk => hk.1), hB HB, hk3_ HK GW172 GW173 GW174⟩
 rw [if_neg c42] at H
 have c42b0 : (a1_0 == 4) = false := beq_eq_false_iff_ne.mpr c42
 have c42b1 : (a1_0 != 4) = true := bne_iff_ne.mpr c42
 have HC61 := Aside0.mk H
 clear H
 obtain ⟨Ao62, co62, eo62⟩ := Kd.R_slice HO0_0.out
 subst eo62
 obtain ⟨Ao63, co63, eo63⟩ := Kd.R_slice HO0_1.out
 subst eo63
 obtain ⟨Ao64, co64, eo64⟩ := Kd.R_slice HO0_2.out
 subst eo64
 go_enter Try.func24, Try.ntmps24
 go_upto_if 50 with (first | ((with_reducible refine gate_dst (N := 2) rfl ?_); (try (refine gate_guard (by rfl) ?_; dsimp only)); refine bx_ev 2 #[.slice Ao62 l0_0.length co62, .slice Ao63 l0_1.length co63, .slice Ao64 l0_2.length co64] 26 ?_; intro gb172 hg w65 hbox hb; have BK172 := Aside0.mk (hbox); have GW172 := Aside0.mk ((by rw [hg]; exact (by first | exact HK.out.1 | exact (show Kept w _ (fun k_ => P0_0_ k_ ∨ P0_1_ k_ ∨ P0_2_ k_) from hk_ HK).1) : w.heap.size ≤ gb172)); have GE172 := gw_ hg HB; replace HO0_0 := rb_ HO0_0 hb; replace HO0_1 := rb_ HO0_1 hb; replace HO0_2 := rb_ HO0_2 hb; replace HK := Aside0.mk (Kept.below (S := (fun k_ => P0_0_ k_ ∨ P0_1_ k_ ∨ P0_2_ k_)) (hk_ HK) hb); replace HB := bst_ HB hb; clear hb hbox hg) | ((with_reducible refine gate_dst (N := 3) rfl ?_); (try (refine gate_guard (by rfl) ?_; dsimp only)); refine bx_ev 3 #[.int .i64 a1_0, .int .i64 a1_1] 28 ?_; intro gb173 hg w66 hbox hb; have BK173 := Aside0.mk (hbox); have GW173 := Aside0.mk ((by rw [hg]; exact (by first | exact HK.out.1 | exact (show Kept w _ (fun k_ => P0_0_ k_ ∨ P0_1_ k_ ∨ P0_2_ k_) from hk1_ HK GW172).1) : w.heap.size ≤ gb173)); have GE173 := gw_ hg HB; have NB172_173 := nl_ hg BK172; have NB173_172 := ng_ hg BK172; replace HO0_0 := rb_ HO0_0 hb; replace HO0_1 := rb_ HO0_1 hb; replace HO0_2 := rb_ HO0_2 hb; replace BK172 := bb_ BK172 hb; replace HK := Aside0.mk (Kept.below (S := (fun k_ => P0_0_ k_ ∨ P0_1_ k_ ∨ P0_2_ k_)) (hk1_ HK GW172) hb); replace HB := bst_ HB hb; clear hb hbox hg) | ((with_reducible refine gate_dst (N := 4) rfl ?_); (try (refine gate_guard (by rfl) ?_; dsimp only)); refine bx_ev 4 #[.slice none 0 0, .slice none 0 0, .slice none 0 0] 26 ?_; intro gb174 hg w67 hbox hb; have BK174 := Aside0.mk (hbox); have GW174 := Aside0.mk ((by rw [hg]; exact (by first | exact HK.out.1 | exact (show Kept w _ (fun k_ => P0_0_ k_ ∨ P0_1_ k_ ∨ P0_2_ k_) from hk2_ HK GW172 GW173).1) : w.heap.size ≤ gb174)); have GE174 := gw_ hg HB; have NB172_174 := nl_ hg BK172; have NB174_172 := ng_ hg BK172; have NB173_174 := nl_ hg BK173; have NB174_173 := ng_ hg BK173; replace HO0_0 := rb_ HO0_0 hb; replace HO0_1 := rb_ HO0_1 hb; replace HO0_2 := rb_ HO0_2 hb; replace BK172 := bb_ BK172 hb; replace BK173 := bb_ BK173 hb; replace HK := Aside0.mk (Kept.below (S := (fun k_ => P0_0_ k_ ∨ P0_1_ k_ ∨ P0_2_ k_)) (hk2_ HK GW172 GW173) hb); replace HB := bst_ HB hb; clear hb hbox hg; obtain ⟨hnb68, hnc68⟩ := nn_ NB173_172; obtain ⟨hnb69, hnc69⟩ := nn_ NB173_174; obtain ⟨hcz70_0, hcz70_1⟩ := bcs2_ BK173))
 (try simp only [Act.put, List.setIfInBounds_toArray, List.set_cons_zero, List.set_cons_succ])
 go_cut [50] (fun v50 wc => ∃ (kq : Nat) (x50_60 : Bool), v50 = .bool x50_60 ∧ Aside0 (spec_l3Step.j1 kq x50_60 l0_0 l0_1 l0_2 a1_0 a1_1 = some (r1, r2, r3, r4)) ∧ Aside0 (kq ≤ k) ∧ Aside0 (Kd.R (Kd.int .i64) 3 wc w0.heap.size (fun k_ => ((P0_0_ k_ ∨ P0_1_ k_ ∨ P0_2_ k_) ∨ w.heap.size ≤ k_) ∧ no_ (.slice Ao63 l0_1.length co63) k_) (.slice Ao62 l0_0.length co62) l0_0) ∧ Aside0 (Kd.R (Kd.int .i64) 3 wc w0.heap.size (fun k_ => ((P0_0_ k_ ∨ P0_1_ k_ ∨ P0_2_ k_) ∨ w.heap.size ≤ k_) ∧ no_ (.slice Ao62 l0_0.length co62) k_) (.slice Ao63 l0_1.length co63) l0_1) ∧ Aside0 (Kd.R k36 36 wc w0.heap.size (fun k_ => ((P0_0_ k_ ∨ P0_1_ k_ ∨ P0_2_ k_) ∨ w.heap.size ≤ k_)) (.slice Ao64 l0_2.length co64) l0_2) ∧ Aside0 (wc.heap[gb172]? = some (.cells #[(.slice Ao62 l0_0.length co62), (.slice Ao63 l0_1.length co63), (.slice Ao64 l0_2.length co64)] 26 (0, 0))) ∧ Aside0 (wc.heap[gb173]? = some (.cells #[.int .i64 a1_0, .int .i64 a1_1] 28 (0, 0))) ∧ Aside0 (wc.heap[gb174]? = some (.cells #[(.slice none 0 0), (.slice none 0 0), (.slice none 0 0)] 26 (0, 0))) ∧ Aside0 (Kept w wc (fun k_ => P0_0_ k_ ∨ P0_1_ k_ ∨ P0_2_ k_)) ∧ Aside0 (Below w0.heap.size w0 wc))
 case first =>
  have H := HC61.out
  clear HC61
  by_cases c71 : a1_0 = 2
  rotate_left
  ·rw [if_neg c71] at H
   have c71b0 : (a1_0 == 2) = false := beq_eq_false_iff_ne.mpr c71
   have c71b1 : (a1_0 != 2) = true := bne_iff_ne.mpr c71
   (first | rw [c71b0] | (simp only [i64_w, i32_w]; rw [c71b0]) | skip)
   have H' := Aside0.mk H
   clear H
   go_wp2
   go_meet
   case rel => exact ⟨_, ((a1_0 == 3)), (by first | rfl | (simp; done) | (simp [*]; done)), H', ⟨by first | omega | exact Nat.le_refl _⟩, ⟨ra HO0_0.out⟩, ⟨ra HO0_1.out⟩, ⟨ra HO0_2.out⟩, ⟨bw0_ BK172⟩, ⟨bw0_ BK173⟩, ⟨bw0_ BK174⟩, ⟨hk3_ HK GW172 GW173 GW174⟩, ⟨hB HB⟩⟩
  rw [if_pos c71] at H
  have c71b0 : (a1_0 == 2) = true := beq_iff_eq.mpr c71
  have c71b1 : (a1_0 != 2) = false := bne_eq_false_iff_eq.mpr c71
  clear c71
  (first | rw [c71b0] | (simp only [i64_w, i32_w]; rw [c71b0]) | skip)
  have H' := Aside0.mk H
  clear H
  go_wp2
  go_meet
  case rel => exact ⟨_, ((a1_0 == 2)), (by first | rfl | (simp; done) | (simp [*]; done)), H', ⟨by first | omega | exact Nat.le_refl _⟩, ⟨ra HO0_0.out⟩, ⟨ra HO0_1.out⟩, ⟨ra HO0_2.out⟩, ⟨bw0_ BK172⟩, ⟨bw0_ BK173⟩, ⟨bw0_ BK174⟩, ⟨hk3_ HK GW172 GW173 GW174⟩, ⟨hB HB⟩⟩
 case rest =>
  clear HC61
  try clear c3
  try clear c3b0
  try clear c3b1
  try clear c42
  try clear c42b0
  try clear c42b1
  try clear hcz70_0
  try clear hcz70_1
  try clear hfz70_0
  try clear hfz70_1
  obtain ⟨kq, x50_60, rfl, HA, HJ60, HO_173000, HO_173001, HO_173002, BK172, BK173, BK174, HK, HB⟩ := hcut
  cases kq with
  | zero => exact absurd HA.out (by simp [spec_l3Step.j1])
  | succ kj60 =>
   have H := HA.out
   clear HA
   simp only [spec_l3Step.j1] at H
   by_cases c72 : x50_60 = true
   rotate_left
   ·replace c72 := Bool.eq_false_iff.mpr c72
    subst c72
    rw [if_neg (show ¬ (false = true) by decide)] at H
    simp only [Option.some.injEq, Prod.mk.injEq] at H
    obtain ⟨rfl, rfl, rfl, rfl⟩ := H
    obtain ⟨hnb164, hnc164⟩ := nn_ NB172_173
    obtain ⟨hnb165, hnc165⟩ := nn_ NB172_174
    obtain ⟨hcz166_0, hcz166_1, hcz166_2⟩ := bcs3_ BK172
    obtain ⟨hfz166_0, hfz166_1, hfz166_2⟩ := bz3_ BK172
    obtain ⟨hnb167, hnc167⟩ := nn_ NB174_173
    obtain ⟨hcz168_0, hcz168_1, hcz168_2⟩ := bcs3_ BK174
    obtain ⟨hfz168_0, hfz168_1, hfz168_2⟩ := bz3_ BK174
    go_wp2
    refine bodyPost_ret (results_ct rfl _ _ gb174 26 #[.slice Ao62 l0_0.length co62, .slice Ao63 l0_1.length co63, .slice Ao64 l0_2.length co64] (0, 0) _ rfl (bw0_ BK174) Try.underlying26 rfl (by kernel_rfl)) rfl ?_
    exact ⟨_, _, _, rt_, ro_ (fs3_ HO_173000.out BK174.out) (fun _ hk => hk.1), ro_ (fs3_ HO_173001.out BK174.out) (fun _ hk => hk.1), ro_ (fs3_ HO_173002.out BK174.out) (fun _ hk => hk.1), hB HB, hk3_ HK GW172 GW173 GW174⟩
   subst c72
   rw [if_pos rfl] at H
   have HC73 := Aside0.mk H
   clear H
   go_upto_region 12 with (fail)
   go_cut [63] (fun v63 wc => ∃ (kq : Nat) (x63_72 : Bool), v63 = .bool x63_72 ∧ Aside0 (spec_l3Step.j2 kq x63_72 l0_0 l0_1 l0_2 a1_0 a1_1 = some (r1, r2, r3, r4)) ∧ Aside0 (kq ≤ kj60) ∧ Aside0 (Kd.R (Kd.int .i64) 3 wc w0.heap.size (fun k_ => ((P0_0_ k_ ∨ P0_1_ k_ ∨ P0_2_ k_) ∨ w.heap.size ≤ k_) ∧ no_ (.slice Ao63 l0_1.length co63) k_) (.slice Ao62 l0_0.length co62) l0_0) ∧ Aside0 (Kd.R (Kd.int .i64) 3 wc w0.heap.size (fun k_ => ((P0_0_ k_ ∨ P0_1_ k_ ∨ P0_2_ k_) ∨ w.heap.size ≤ k_) ∧ no_ (.slice Ao62 l0_0.length co62) k_) (.slice Ao63 l0_1.length co63) l0_1) ∧ Aside0 (Kd.R k36 36 wc w0.heap.size (fun k_ => ((P0_0_ k_ ∨ P0_1_ k_ ∨ P0_2_ k_) ∨ w.heap.size ≤ k_)) (.slice Ao64 l0_2.length co64) l0_2) ∧ Aside0 (wc.heap[gb172]? = some (.cells #[(.slice Ao62 l0_0.length co62), (.slice Ao63 l0_1.length co63), (.slice Ao64 l0_2.length co64)] 26 (0, 0))) ∧ Aside0 (wc.heap[gb173]? = some (.cells #[.int .i64 a1_0, .int .i64 a1_1] 28 (0, 0))) ∧ Aside0 (wc.heap[gb174]? = some (.cells #[(.slice none 0 0), (.slice none 0 0), (.slice none 0 0)] 26 (0, 0))) ∧ Aside0 (Kept w wc (fun k_ => P0_0_ k_ ∨ P0_1_ k_ ∨ P0_2_ k_)) ∧ Aside0 (Below w0.heap.size w0 wc))
   case first =>
    have H := HC73.out
    clear HC73
    by_cases c74 : a1_1 < 0
    ·rw [if_pos c74] at H
     have c74b0 : decide (a1_1 < 0) = true := decide_eq_true c74
     clear c74
     (first | rw [c74b0] | (simp only [i64_w, i32_w]; rw [c74b0]) | skip)
     have H' := Aside0.mk H
     clear H
     obtain ⟨hnb75, hnc75⟩ := nn_ NB173_172
     obtain ⟨hnb76, hnc76⟩ := nn_ NB173_174
     obtain ⟨hcz77_0, hcz77_1⟩ := bcs2_ BK173
     obtain ⟨hfz77_0, hfz77_1⟩ := bz2_ BK173
     go_wp2
     go_meet
     case rel => exact ⟨_, (true), (by first | rfl | (simp; done) | (simp [*]; done)), H', ⟨by have := HJ60.out; first | omega | exact Nat.le_refl _⟩, ⟨ra HO_173000.out⟩, ⟨ra HO_173001.out⟩, ⟨ra HO_173002.out⟩, ⟨bw0_ BK172⟩, ⟨bw0_ BK173⟩, ⟨bw0_ BK174⟩, ⟨hk3_ HK GW172 GW173 GW174⟩, ⟨hB HB⟩⟩
    rw [if_neg c74] at H
    have c74b0 : decide (a1_1 < 0) = false := decide_eq_false c74
    clear c74
    (first | rw [c74b0] | (simp only [i64_w, i32_w]; rw [c74b0]) | skip)
    have H' := Aside0.mk H
    clear H
    obtain ⟨hnb78, hnc78⟩ := nn_ NB173_172
    obtain ⟨hnb79, hnc79⟩ := nn_ NB173_174
    obtain ⟨hcz80_0, hcz80_1⟩ := bcs2_ BK173
    obtain ⟨hfz80_0, hfz80_1⟩ := bz2_ BK173
    obtain ⟨hnb81, hnc81⟩ := nn_ NB172_174
    obtain ⟨hcz82_0, hcz82_1, hcz82_2⟩ := bcs3_ BK172
    obtain ⟨hfz82_0, hfz82_1, hfz82_2⟩ := bz3_ BK172
    go_wp2
    go_meet
    case rel => exact ⟨_, (decide (a1_1 ≥ (l0_2.length : Int))), (by first | rfl | (simp; done) | (simp [*]; done)), H', ⟨by have := HJ60.out; first | omega | exact Nat.le_refl _⟩, ⟨ra HO_173000.out⟩, ⟨ra HO_173001.out⟩, ⟨ra HO_173002.out⟩, ⟨bw0_ BK172⟩, ⟨bw0_ BK173⟩, ⟨bw0_ BK174⟩, ⟨hk3_ HK GW172 GW173 GW174⟩, ⟨hB HB⟩⟩
   case rest =>
    clear HC73
    try clear c3
    try clear c3b0
    try clear c3b1
    try clear c42
    try clear c42b0
    try clear c42b1
    try clear c72
    try clear hcz70_0
    try clear hcz70_1
    try clear hfz70_0
    try clear hfz70_1
    obtain ⟨kq, x63_72, rfl, HA, HJ72, HO_173000, HO_173001, HO_173002, BK172, BK173, BK174, HK, HB⟩ := hcut
    cases kq with
    | zero => exact absurd HA.out (by simp [spec_l3Step.j2])
    | succ kj72 =>
     have H := HA.out
     clear HA
     simp only [spec_l3Step.j2] at H
     by_cases c83 : x63_72 = true
     ·subst c83
      rw [if_pos rfl] at H
      simp only [Option.some.injEq, Prod.mk.injEq] at H
      obtain ⟨rfl, rfl, rfl, rfl⟩ := H
      obtain ⟨hnb84, hnc84⟩ := nn_ NB172_173
      obtain ⟨hnb85, hnc85⟩ := nn_ NB172_174
      obtain ⟨hcz86_0, hcz86_1, hcz86_2⟩ := bcs3_ BK172
      obtain ⟨hfz86_0, hfz86_1, hfz86_2⟩ := bz3_ BK172
      obtain ⟨hnb87, hnc87⟩ := nn_ NB174_173
      obtain ⟨hcz88_0, hcz88_1, hcz88_2⟩ := bcs3_ BK174
      obtain ⟨hfz88_0, hfz88_1, hfz88_2⟩ := bz3_ BK174
      go_wp2
      refine bodyPost_ret (results_ct rfl _ _ gb174 26 #[.slice Ao62 l0_0.length co62, .slice Ao63 l0_1.length co63, .slice Ao64 l0_2.length co64] (0, 0) _ rfl (bw0_ BK174) Try.underlying26 rfl (by kernel_rfl)) rfl ?_
      exact ⟨_, _, _, rt_, ro_ (fs3_ HO_173000.out BK174.out) (fun _ hk => hk.1), ro_ (fs3_ HO_173001.out BK174.out) (fun _ hk => hk.1), ro_ (fs3_ HO_173002.out BK174.out) (fun _ hk => hk.1), hB HB, hk3_ HK GW172 GW173 GW174⟩
     replace c83 := Bool.eq_false_iff.mpr c83
     subst c83
     rw [if_neg (show ¬ (false = true) by decide)] at H
     by_cases c89 : 0 ≤ a1_1
     rotate_left
     ·rw [if_neg c89] at H
      exact absurd H (by simp)
     rw [if_pos c89] at H
     have c89b0 : decide (0 ≤ a1_1) = true := decide_eq_true c89
     clear c89
     by_cases c90 : a1_1 < (l0_2.length : Int)
     rotate_left
     ·rw [if_neg c90] at H
      exact absurd H (by simp)
     rw [if_pos c90] at H
     have c90b0 : decide (a1_1 < (l0_2.length : Int)) = true := decide_eq_true c90
     clear c90
     obtain ⟨y191, hy191⟩ : ∃ y_ : List (S36), y_ = (([] : List (S36))) := ⟨_, rfl⟩
     replace H : (if a1_1 ≤ (l0_2.length : Int) then ((some (l0_2.take (a1_1 : Int).toNat : List (S36))).bind fun y194 => (if y191.length + y194.length < 8796093022208 then ((some (y191 ++ y194 : List (S36))).bind fun y198 => (if 0 ≤ (wrap64 (a1_1 + 1)) then (if (wrap64 (a1_1 + 1)) ≤ (l0_2.length : Int) then ((some (l0_2.drop ((wrap64 (a1_1 + 1)) : Int).toNat : List (S36))).bind fun y201 => (if y198.length + y201.length < 8796093022208 then ((some (y198 ++ y201 : List (S36))).bind fun y205 => (if a1_0 = 2 then (if 0 ≤ (wrap64 (1 - ((rd_T36 l0_2 a1_1).f0))) then (if (wrap64 (1 - ((rd_T36 l0_2 a1_1).f0))) < (l0_0.length : Int) then ((spec_NextState.f (rd l0_0 (wrap64 (1 - ((rd_T36 l0_2 a1_1).f0)))) ((rd_T36 l0_2 a1_1).f1)).bind fun bt209 => (if (wrap64 (1 - ((rd_T36 l0_2 a1_1).f0))) < (l0_1.length : Int) then (some ((l0_0.set ((wrap64 (1 - ((rd_T36 l0_2 a1_1).f0))) : Int).toNat bt209.1), (l0_1.set ((wrap64 (1 - ((rd_T36 l0_2 a1_1).f0))) : Int).toNat 3), y205, true)) else (none))) else (none)) else (none)) else (some (l0_0, l0_1, y205, true)))) else (none))) else (none)) else (none))) else (none))) else (none)) = some (r1, r2, r3, r4) := by first | (rw [hy191]; with_reducible exact H) | (have H2_ := (Option.bind_some _ _).symm.trans H; rw [hy191]; with_reducible exact H2_) | (have H2_ := (Option.bind_some _ _).symm.trans H; with_reducible exact H2_) | with_reducible exact H | (rw [hy191]; exact H) | exact H
     have Ny191 := Aside0.mk hy191
     clear hy191
     have c91b0 := eq_true (od_ : 0 ≤ a1_1)
     by_cases c92 : a1_1 ≤ (l0_2.length : Int)
     rotate_left
     ·rw [if_neg c92] at H
      exact absurd H (by simp)
     rw [if_pos c92] at H
     have c92b0 := eq_true c92
     have c92b1 : decide (a1_1 ≤ (l0_2.length : Int)) = true := decide_eq_true c92
     clear c92
     obtain ⟨y194, hy194⟩ : ∃ y_ : List (S36), y_ = (l0_2.take (a1_1 : Int).toNat) := ⟨_, rfl⟩
     replace H : (if y191.length + y194.length < 8796093022208 then ((some (y191 ++ y194 : List (S36))).bind fun y198 => (if 0 ≤ (wrap64 (a1_1 + 1)) then (if (wrap64 (a1_1 + 1)) ≤ (l0_2.length : Int) then ((some (l0_2.drop ((wrap64 (a1_1 + 1)) : Int).toNat : List (S36))).bind fun y201 => (if y198.length + y201.length < 8796093022208 then ((some (y198 ++ y201 : List (S36))).bind fun y205 => (if a1_0 = 2 then (if 0 ≤ (wrap64 (1 - ((rd_T36 l0_2 a1_1).f0))) then (if (wrap64 (1 - ((rd_T36 l0_2 a1_1).f0))) < (l0_0.length : Int) then ((spec_NextState.f (rd l0_0 (wrap64 (1 - ((rd_T36 l0_2 a1_1).f0)))) ((rd_T36 l0_2 a1_1).f1)).bind fun bt209 => (if (wrap64 (1 - ((rd_T36 l0_2 a1_1).f0))) < (l0_1.length : Int) then (some ((l0_0.set ((wrap64 (1 - ((rd_T36 l0_2 a1_1).f0))) : Int).toNat bt209.1), (l0_1.set ((wrap64 (1 - ((rd_T36 l0_2 a1_1).f0))) : Int).toNat 3), y205, true)) else (none))) else (none)) else (none)) else (some (l0_0, l0_1, y205, true)))) else (none))) else (none)) else (none))) else (none)) = some (r1, r2, r3, r4) := by first | (rw [hy194]; with_reducible exact H) | (have H2_ := (Option.bind_some _ _).symm.trans H; rw [hy194]; with_reducible exact H2_) | (have H2_ := (Option.bind_some _ _).symm.trans H; with_reducible exact H2_) | with_reducible exact H | (rw [hy194]; exact H) | exact H
     have Ny194 := Aside0.mk hy194
     clear hy194
     by_cases c93 : y191.length + y194.length < 8796093022208
     rotate_left
     ·rw [if_neg c93] at H
      exact absurd H (by simp)
     rw [if_pos c93] at H
     have LMc93 := Aside0.mk c93
     clear c93
     obtain ⟨y198, hy198⟩ : ∃ y_ : List (S36), y_ = (y191 ++ y194) := ⟨_, rfl⟩
     replace H : (if 0 ≤ (wrap64 (a1_1 + 1)) then (if (wrap64 (a1_1 + 1)) ≤ (l0_2.length : Int) then ((some (l0_2.drop ((wrap64 (a1_1 + 1)) : Int).toNat : List (S36))).bind fun y201 => (if y198.length + y201.length < 8796093022208 then ((some (y198 ++ y201 : List (S36))).bind fun y205 => (if a1_0 = 2 then (if 0 ≤ (wrap64 (1 - ((rd_T36 l0_2 a1_1).f0))) then (if (wrap64 (1 - ((rd_T36 l0_2 a1_1).f0))) < (l0_0.length : Int) then ((spec_NextState.f (rd l0_0 (wrap64 (1 - ((rd_T36 l0_2 a1_1).f0)))) ((rd_T36 l0_2 a1_1).f1)).bind fun bt209 => (if (wrap64 (1 - ((rd_T36 l0_2 a1_1).f0))) < (l0_1.length : Int) then (some ((l0_0.set ((wrap64 (1 - ((rd_T36 l0_2 a1_1).f0))) : Int).toNat bt209.1), (l0_1.set ((wrap64 (1 - ((rd_T36 l0_2 a1_1).f0))) : Int).toNat 3), y205, true)) else (none))) else (none)) else (none)) else (some (l0_0, l0_1, y205, true)))) else (none))) else (none)) else (none)) = some (r1, r2, r3, r4) := by first | (rw [hy198]; with_reducible exact H) | (have H2_ := (Option.bind_some _ _).symm.trans H; rw [hy198]; with_reducible exact H2_) | (have H2_ := (Option.bind_some _ _).symm.trans H; with_reducible exact H2_) | with_reducible exact H | (rw [hy198]; exact H) | exact H
     have Ny198 := Aside0.mk hy198
     clear hy198
     obtain ⟨ji94, hji94⟩ : ∃ j_ : Int, (wrap64 (a1_1 + 1)) = j_ := ⟨_, rfl⟩
     replace H : (if 0 ≤ (ji94) then (if (ji94) ≤ (l0_2.length : Int) then ((some (l0_2.drop ((ji94) : Int).toNat : List (S36))).bind fun y201 => (if y198.length + y201.length < 8796093022208 then ((some (y198 ++ y201 : List (S36))).bind fun y205 => (if a1_0 = 2 then (if 0 ≤ (wrap64 (1 - ((rd_T36 l0_2 a1_1).f0))) then (if (wrap64 (1 - ((rd_T36 l0_2 a1_1).f0))) < (l0_0.length : Int) then ((spec_NextState.f (rd l0_0 (wrap64 (1 - ((rd_T36 l0_2 a1_1).f0)))) ((rd_T36 l0_2 a1_1).f1)).bind fun bt209 => (if (wrap64 (1 - ((rd_T36 l0_2 a1_1).f0))) < (l0_1.length : Int) then (some ((l0_0.set ((wrap64 (1 - ((rd_T36 l0_2 a1_1).f0))) : Int).toNat bt209.1), (l0_1.set ((wrap64 (1 - ((rd_T36 l0_2 a1_1).f0))) : Int).toNat 3), y205, true)) else (none))) else (none)) else (none)) else (some (l0_0, l0_1, y205, true)))) else (none))) else (none)) else (none)) = some (r1, r2, r3, r4) := by first | (rw [hji94] at H; exact H) | (simp only [hji94] at H ⊢; exact H)
     have hji94w : (IntKind.i64.wrap (a1_1 + 1)) = ji94 := (i64_w _).trans hji94
     by_cases c95 : 0 ≤ (ji94)
     rotate_left
     ·rw [if_neg c95] at H
      exact absurd H (by simp)
     rw [if_pos c95] at H
     have c95b0 := eq_true c95
     have c95b1 : decide (0 ≤ (ji94)) = true := decide_eq_true c95
     clear c95
     by_cases c96 : (ji94) ≤ (l0_2.length : Int)
     rotate_left
     ·rw [if_neg c96] at H
      exact absurd H (by simp)
     rw [if_pos c96] at H
     have c96b0 := eq_true c96
     have c96b1 : decide ((ji94) ≤ (l0_2.length : Int)) = true := decide_eq_true c96
     clear c96
     obtain ⟨y201, hy201⟩ : ∃ y_ : List (S36), y_ = (l0_2.drop ((ji94) : Int).toNat) := ⟨_, rfl⟩
     replace H : (if y198.length + y201.length < 8796093022208 then ((some (y198 ++ y201 : List (S36))).bind fun y205 => (if a1_0 = 2 then (if 0 ≤ (wrap64 (1 - ((rd_T36 l0_2 a1_1).f0))) then (if (wrap64 (1 - ((rd_T36 l0_2 a1_1).f0))) < (l0_0.length : Int) then ((spec_NextState.f (rd l0_0 (wrap64 (1 - ((rd_T36 l0_2 a1_1).f0)))) ((rd_T36 l0_2 a1_1).f1)).bind fun bt209 => (if (wrap64 (1 - ((rd_T36 l0_2 a1_1).f0))) < (l0_1.length : Int) then (some ((l0_0.set ((wrap64 (1 - ((rd_T36 l0_2 a1_1).f0))) : Int).toNat bt209.1), (l0_1.set ((wrap64 (1 - ((rd_T36 l0_2 a1_1).f0))) : Int).toNat 3), y205, true)) else (none))) else (none)) else (none)) else (some (l0_0, l0_1, y205, true)))) else (none)) = some (r1, r2, r3, r4) := by first | (rw [hy201]; with_reducible exact H) | (have H2_ := (Option.bind_some _ _).symm.trans H; rw [hy201]; with_reducible exact H2_) | (have H2_ := (Option.bind_some _ _).symm.trans H; with_reducible exact H2_) | with_reducible exact H | (rw [hy201]; exact H) | exact H
     have Ny201 := Aside0.mk hy201
     clear hy201
     by_cases c97 : y198.length + y201.length < 8796093022208
     rotate_left
     ·rw [if_neg c97] at H
      exact absurd H (by simp)
     rw [if_pos c97] at H
     have LMc97 := Aside0.mk c97
     clear c97
     obtain ⟨y205, hy205⟩ : ∃ y_ : List (S36), y_ = (y198 ++ y201) := ⟨_, rfl⟩
     replace H : (if a1_0 = 2 then (if 0 ≤ (wrap64 (1 - ((rd_T36 l0_2 a1_1).f0))) then (if (wrap64 (1 - ((rd_T36 l0_2 a1_1).f0))) < (l0_0.length : Int) then ((spec_NextState.f (rd l0_0 (wrap64 (1 - ((rd_T36 l0_2 a1_1).f0)))) ((rd_T36 l0_2 a1_1).f1)).bind fun bt209 => (if (wrap64 (1 - ((rd_T36 l0_2 a1_1).f0))) < (l0_1.length : Int) then (some ((l0_0.set ((wrap64 (1 - ((rd_T36 l0_2 a1_1).f0))) : Int).toNat bt209.1), (l0_1.set ((wrap64 (1 - ((rd_T36 l0_2 a1_1).f0))) : Int).toNat 3), y205, true)) else (none))) else (none)) else (none)) else (some (l0_0, l0_1, y205, true))) = some (r1, r2, r3, r4) := by first | (rw [hy205]; with_reducible exact H) | (have H2_ := (Option.bind_some _ _).symm.trans H; rw [hy205]; with_reducible exact H2_) | (have H2_ := (Option.bind_some _ _).symm.trans H; with_reducible exact H2_) | with_reducible exact H | (rw [hy205]; exact H) | exact H
     have Ny205 := Aside0.mk hy205
     clear hy205
     by_cases c98 : a1_0 = 2
     rotate_left
     ·rw [if_neg c98] at H
      have c98b0 : (a1_0 == 2) = false := beq_eq_false_iff_ne.mpr c98
      have c98b1 : (a1_0 != 2) = true := bne_iff_ne.mpr c98
      simp only [Option.some.injEq, Prod.mk.injEq] at H
      obtain ⟨rfl, rfl, rfl, rfl⟩ := H
      obtain ⟨hnb140, hnc140⟩ := nn_ NB172_173
      obtain ⟨hnb141, hnc141⟩ := nn_ NB172_174
      obtain ⟨hcz142_0, hcz142_1, hcz142_2⟩ := bcs3_ BK172
      obtain ⟨hfz142_0, hfz142_1, hfz142_2⟩ := bz3_ BK172
      obtain ⟨hnb143, hnc143⟩ := nn_ NB173_174
      obtain ⟨hcz144_0, hcz144_1⟩ := bcs2_ BK173
      obtain ⟨hfz144_0, hfz144_1⟩ := bz2_ BK173
      have p189 : 0 ≤ (a1_1 : Int) := od_
      have q189 : a1_1 < (l0_2.length : Int) := od_
      obtain ⟨ad189, e189, hx189_0, hx189_1⟩ := at_T36 (Kd.R_reads' HO_173002.out).2.2 a1_1 p189 q189
      cases e189
      replace p189 := eq_true p189
      replace q189 := eq_true q189
      go_wp2_with (first | ((with_reducible refine gate_dst (N := 6) rfl ?_); (try (refine gate_guard (by rfl) ?_; dsimp only)); refine bx_ev 6 #[.int .i64 0, .bool false] 36 ?_; intro gb190 hg w145 hbox hb; have BK190 := Aside0.mk (hbox); have GW190 := Aside0.mk ((by rw [hg]; exact (by first | exact HK.out.1 | exact (show Kept w _ (fun k_ => P0_0_ k_ ∨ P0_1_ k_ ∨ P0_2_ k_) from hk3_ HK GW172 GW173 GW174).1) : w.heap.size ≤ gb190)); have GE190 := gw_ hg HB; have NB172_190 := nl_ hg BK172; have NB190_172 := ng_ hg BK172; have NB173_190 := nl_ hg BK173; have NB190_173 := ng_ hg BK173; have NB174_190 := nl_ hg BK174; have NB190_174 := ng_ hg BK174; replace HO_173000 := rb_ HO_173000 hb; replace HO_173001 := rb_ HO_173001 hb; replace HO_173002 := Aside0.mk (Kd.R_below (Kd.R_elderB (ra HO_173002.out) gb190 (Nat.le_of_eq hg.symm)) hb); replace BK172 := bb_ BK172 hb; replace BK173 := bb_ BK173 hb; replace BK174 := bb_ BK174 hb; replace HK := Aside0.mk (Kept.below (S := (fun k_ => P0_0_ k_ ∨ P0_1_ k_ ∨ P0_2_ k_)) (hk3_ HK GW172 GW173 GW174) hb); replace HB := bst_ HB hb; clear hb hbox hg; obtain ⟨hnb146, hnc146⟩ := nn_ NB190_172; obtain ⟨hnb147, hnc147⟩ := nn_ NB190_173; obtain ⟨hnb148, hnc148⟩ := nn_ NB190_174; obtain ⟨hcz149_0, hcz149_1⟩ := bcs2_ BK190; obtain ⟨hfz149_0, hfz149_1⟩ := bz2_ BK190) | ((with_reducible refine gate_dst (N := 71) rfl ?_); (try (refine gate_guard (by rfl) ?_; dsimp only)); refine Kd.R_lit k36 _ 36 ?hg (N := 71) ?hd (xs := ([] : List (S36))) (inner := []) (ok := fun _ => True) (okp := fun _ => True) ?hr ?hp (fun _ hk => hk) trivial (Below.refl _ _) (Nat.le_refl _) (by simp) ?_; (case hd => rfl); (case hg => rfl); (case hr => first | (go_simp; done) | (go_simp; rfl)); (case hp => exact (Reps.none _ _)); intro v192 w150 ho151 hb hg_ hnew_; clear hg_ hnew_; (first | rw [← Ny191.out] at ho151 | (simp only [Int.reduceToNat] at ho151; rw [← Ny191.out] at ho151)); have HO193 := Aside0.mk (Kd.R_lower (Kd.R_newB (Kd.R_new' (Kd.R_newM (M := fun k_ => ((P0_0_ k_ ∨ P0_1_ k_ ∨ P0_2_ k_) ∨ w.heap.size ≤ k_)) ho151 (show Kept w _ (fun k_ => P0_0_ k_ ∨ P0_1_ k_ ∨ P0_2_ k_) from hk4_ HK GW172 GW173 GW174 GW190).1 (fun k_ h_ => .inr h_)) (Kd.R_lt (ra (Kd.R_mono (Kd.R_far (p := ⟨gb190, 1, none⟩) (Kd.R_far (p := ⟨gb190, 0, none⟩) (Kd.R_mono HO_173002.out (fun k_ hk => (⟨hk, hk.2⟩ : _ ∧ k_ ≠ gb190))) (fun _ hk => hk.2) (.int .i64 ((rd_T36 l0_2 a1_1).f0))) (fun _ hk => hk.2) (.bool ((rd_T36 l0_2 a1_1).f1))) (fun _ h_ => h_.1))))) (g := gb190) (o := .cells #[.int .i64 ((rd_T36 l0_2 a1_1).f0), .bool ((rd_T36 l0_2 a1_1).f1)] 36 (0, 0)) (bw0_ BK190)) (below_size (hB HB))); replace HO_173000 := Aside0.mk (Kd.R_below (ra (Kd.R_mono (Kd.R_far (p := ⟨gb190, 1, none⟩) (Kd.R_far (p := ⟨gb190, 0, none⟩) (Kd.R_types HO_173000.out BK190.out (by decide)) (fun _ hk => hk.2) (.int .i64 ((rd_T36 l0_2 a1_1).f0))) (fun _ hk => hk.2) (.bool ((rd_T36 l0_2 a1_1).f1))) (fun _ h_ => h_.1))) hb); replace HO_173001 := Aside0.mk (Kd.R_below (ra (Kd.R_mono (Kd.R_far (p := ⟨gb190, 1, none⟩) (Kd.R_far (p := ⟨gb190, 0, none⟩) (Kd.R_types HO_173001.out BK190.out (by decide)) (fun _ hk => hk.2) (.int .i64 ((rd_T36 l0_2 a1_1).f0))) (fun _ hk => hk.2) (.bool ((rd_T36 l0_2 a1_1).f1))) (fun _ h_ => h_.1))) hb); replace HO_173002 := Aside0.mk (Kd.R_elder' (ra (Kd.R_mono (Kd.R_far (p := ⟨gb190, 1, none⟩) (Kd.R_far (p := ⟨gb190, 0, none⟩) (Kd.R_mono HO_173002.out (fun k_ hk => (⟨hk, hk.2⟩ : _ ∧ k_ ≠ gb190))) (fun _ hk => hk.2) (.int .i64 ((rd_T36 l0_2 a1_1).f0))) (fun _ hk => hk.2) (.bool ((rd_T36 l0_2 a1_1).f1))) (fun _ h_ => h_.1))) (Kd.R_base ho151) hb); replace BK172 := Aside0.mk (blk_below (bx BK172) hb); replace BK173 := Aside0.mk (blk_below (bx BK173) hb); replace BK174 := Aside0.mk (blk_below (bx BK174) hb); replace BK190 := Aside0.mk (blk_below (g := gb190) (o := .cells #[.int .i64 ((rd_T36 l0_2 a1_1).f0), .bool ((rd_T36 l0_2 a1_1).f1)] 36 (0, 0)) (bw0_ BK190) hb); replace HK := Aside0.mk (Kept.below (S := (fun k_ => P0_0_ k_ ∨ P0_1_ k_ ∨ P0_2_ k_)) (hk4_ HK GW172 GW173 GW174 GW190) hb); replace HB := bst_ HB hb; clear hb ho151; obtain ⟨hcz152_0, hcz152_1, hcz152_2⟩ := bcs3_ BK172; obtain ⟨hfz152_0, hfz152_1, hfz152_2⟩ := bz3_ BK172; obtain ⟨hcz153_0, hcz153_1⟩ := bcs2_ BK173; have q154 : (a1_1 : Int) ≤ ((l0_2.length : Int) : Int) := od_; obtain ⟨i0154, hi0154, _, hsz154, _⟩ := info_parts info36; have hroom154 : l0_2.length ≤ co64 := (Kd.R_reads' HO_173002.out).2.1; have hC154 : Kd.C k36 _ (some ad189) l0_2.length l0_2 := (Kd.R_reads' HO_173002.out).2.2; have hcut154 := cut_to (P := Try.prog) 24 36 .i64 Try.underlying24 hi0154 (some ad189) l0_2.length co64 a1_1 (od_) q154 hroom154; have hr154 := Kd.C_take (m := (a1_1 : Int).toNat) hC154 (by omega); have hy154 : y194.length = (a1_1 : Int).toNat := (by rw [Ny194.out, List.length_take]; omega); rw [← Ny194.out] at hr154; rw [← hy154] at hcut154; have HR197 := Aside0.mk hr154; have HC197 := Aside0.mk (show y194.length ≤ co64 from by omega); clear hr154 hC154 hroom154 hi0154 hsz154; have KY154 := Aside0.mk hy154; clear hy154; have KL154 := Aside0.mk (show (a1_1 : Int).toNat ≤ l0_2.length from by omega); replace q154 := eq_true q154) | ((with_reducible refine gate_builtin (b := .append) (xs := #[.tmp 71, .tmp 76]) rfl ?_); (try (refine gate_guard (by rfl) ?_; dsimp only)); at_builtin; refine Kd.R_append_rows k36 (w0 := w0) w0.heap.size rfl (.tmp 71) (.tmp 76) 24 36 (.agg #[(.int .i64 0), (.bool false)]) 16 rfl Try.underlying24 info36 rfl (by decide) (by omega) v192 y191 y194 _ _ _ (fun k_ => ((P0_0_ k_ ∨ P0_1_ k_ ∨ P0_2_ k_) ∨ w.heap.size ≤ k_) ∧ some k_ ≠ (.slice (some ad189) l0_2.length co64 : Value).ownBlock ∧ k_ ≠ gb190) (fun _ => False) rfl rfl ?aO ?aR (fun _ _ h => h) (fun _ h => h.elim) ?aF ?aB ?aS ?aL ?_; (case aR => repeat (first | exact (by repeat (first | (with_reducible exact HR197.out) | (with_reducible refine Kd.C_alloc ?_ _) | (with_reducible refine Kd.C_drewN ?_ _) | (with_reducible refine Kd.C_drew ?_) | exact HR197.out)) | (with_reducible refine Kd.C_alloc ?_ _) | (with_reducible refine Kd.C_drewN ?_ _) | (with_reducible refine Kd.C_drew ?_))); (case aB => exact (hB HB)); (case aF => exact (fun k_ hk => ⟨(.inr (Nat.le_trans (by first | exact HK.out.1 | exact (show Kept w _ (fun k_ => P0_0_ k_ ∨ P0_1_ k_ ∨ P0_2_ k_) from hk4_ HK GW172 GW173 GW174 GW190).1) hk)), Kd.fresh' (rl_ HO_173002) k_ hk, Kd.freshB (g := gb190) (o := .cells #[.int .i64 ((rd_T36 l0_2 a1_1).f0), .bool ((rd_T36 l0_2 a1_1).f1)] 36 (0, 0)) (ba BK190.out) k_ hk⟩)); (case aO => exact (rm_ HO193 (fun _ hk => ⟨hk.1.1.1, ⟨hk.1.2, hk.2⟩⟩)).out); (case aS => exact (below_size (hB HB))); (case aL => have := LMc93.out; omega); intro v199 w155 ho hb hg hat; rw [← Ny198.out] at ho; have HO200 := Aside0.mk (ho); replace HO_173000 := Aside0.mk (Kd.R_over' (ra HO_173000.out) (Kd.R_typed (ra HO193.out)) (by decide) hg); replace HO_173001 := Aside0.mk (Kd.R_over' (ra HO_173001.out) (Kd.R_typed (ra HO193.out)) (by decide) hg); replace BK172 := Aside0.mk (blk_grown (g := gb172) (o := .cells #[.slice Ao62 l0_0.length co62, .slice Ao63 l0_1.length co63, .slice (some ad189) l0_2.length co64] 26 (0, 0)) (ba BK172.out) hg (Kd.R_ne HO193.out BK172.out (by decide))); replace BK173 := Aside0.mk (blk_grown (g := gb173) (o := .cells #[.int .i64 a1_0, .int .i64 a1_1] 28 (0, 0)) (ba BK173.out) hg (Kd.R_ne HO193.out BK173.out (by decide))); replace BK174 := Aside0.mk (blk_grown (g := gb174) (o := .cells #[.slice none 0 0, .slice none 0 0, .slice none 0 0] 26 (0, 0)) (ba BK174.out) hg (Kd.R_ne HO193.out BK174.out (by decide))); replace BK190 := Aside0.mk (blk_grown (g := gb190) (o := .cells #[.int .i64 ((rd_T36 l0_2 a1_1).f0), .bool ((rd_T36 l0_2 a1_1).f1)] 36 (0, 0)) (ba BK190.out) hg (Kd.R_away HO193.out (fun _ hk => hk.2))); replace HB := Aside0.mk (hb); replace HK := Aside0.mk (Kept.of_grown (S := (fun k_ => P0_0_ k_ ∨ P0_1_ k_ ∨ P0_2_ k_)) hg (hk4_ HK GW172 GW173 GW174 GW190) (fun k_ e_ => (HO193.out.1 k_ e_).1.1.1)); replace HR197 := Aside0.mk ((show Kd.C k36 w155 (some ad189) y194.length y194 from by rw [Ny194.out]; exact Kd.C_take (m := (a1_1 : Int).toNat) ((Kd.R_reads' (Kd.R_after (ok := (fun k_ => ((P0_0_ k_ ∨ P0_1_ k_ ∨ P0_2_ k_) ∨ w.heap.size ≤ k_) ∧ k_ ≠ gb190)) (ra HO_173002.out) hg hat)).2.2) KL154.out)); replace HO_173002 := Aside0.mk (Kd.R_after (ok := (fun k_ => ((P0_0_ k_ ∨ P0_1_ k_ ∨ P0_2_ k_) ∨ w.heap.size ≤ k_) ∧ k_ ≠ gb190)) (ra HO_173002.out) hg hat); clear HO193; clear ho hb hg hat; obtain ⟨hcz156_0, hcz156_1, hcz156_2⟩ := bcs3_ BK172; obtain ⟨hfz156_0, hfz156_1, hfz156_2⟩ := bz3_ BK172; obtain ⟨hcz157_0, hcz157_1⟩ := bcs2_ BK173; have q158 : ((ji94) : Int) ≤ ((l0_2.length : Int) : Int) := od_; obtain ⟨i0158, hi0158, _, hsz158, _⟩ := info_parts info36; have hroom158 : l0_2.length ≤ co64 := (Kd.R_reads' HO_173002.out).2.1; have hC158 : Kd.C k36 _ (some ad189) l0_2.length l0_2 := (Kd.R_reads' HO_173002.out).2.2; have q0158 : (0 : Int) ≤ ((ji94) : Int) := od_; have hcut158 := cut_from (P := Try.prog) 24 36 .i64 Try.underlying24 hi0158 2 hsz158 (some ad189) l0_2.length co64 (ji94) q0158 q158; have hr158 := Kd.C_drop (m := ((ji94) : Int).toNat) (c := co64) hC158 (by omega) hroom158; obtain ⟨A158, hA158⟩ : ∃ A1, A1 = (if co64 = ((ji94) : Int).toNat then (some ad189) else ((some ad189) : Option Addr).map (·.add (((ji94) : Int).toNat * 2))) := ⟨_, rfl⟩; obtain ⟨c158, hc158⟩ : ∃ c1, c1 = co64 - ((ji94) : Int).toNat := ⟨_, rfl⟩; have hy158 : y201.length = l0_2.length - ((ji94) : Int).toNat := (by rw [Ny201.out, List.length_drop] <;> omega); rw [show (l0_2).drop ((ji94) : Int).toNat = y201 from Ny201.out.symm] at hr158; replace hr158 : Kd.C k36 _ A158 y201.length y201 := (by rw [hA158]; exact hr158); rw [← hy158, ← hA158, ← hc158] at hcut158; have HR204 := Aside0.mk hr158; have HC204 := Aside0.mk (show y201.length ≤ c158 from by rw [hy158, hc158]; exact Nat.sub_le_sub_right hroom158 _); clear hr158 hC158 hroom158 hi0158 hsz158 hc158; have KY158 := Aside0.mk hy158; have KA158 := Aside0.mk hA158; clear hy158 hA158; have KL158 := Aside0.mk (show ((ji94) : Int).toNat ≤ l0_2.length from by omega); replace q158 := eq_true q158) | ((with_reducible refine gate_builtin (b := .append) (xs := #[.tmp 78, .tmp 84]) rfl ?_); (try (refine gate_guard (by rfl) ?_; dsimp only)); at_builtin; refine Kd.R_append_rows k36 (w0 := w0) w0.heap.size rfl (.tmp 78) (.tmp 84) 24 36 (.agg #[(.int .i64 0), (.bool false)]) 16 rfl Try.underlying24 info36 rfl (by decide) (by omega) v199 y198 y201 _ _ _ (fun k_ => ((P0_0_ k_ ∨ P0_1_ k_ ∨ P0_2_ k_) ∨ w.heap.size ≤ k_) ∧ some k_ ≠ (.slice (some ad189) l0_2.length co64 : Value).ownBlock ∧ k_ ≠ gb190) (fun _ => False) rfl rfl ?aO ?aR (fun _ _ h => h) (fun _ h => h.elim) ?aF ?aB ?aS ?aL ?_; (case aR => repeat (first | exact (by repeat (first | (with_reducible exact HR204.out) | (with_reducible refine Kd.C_alloc ?_ _) | (with_reducible refine Kd.C_drewN ?_ _) | (with_reducible refine Kd.C_drew ?_) | exact HR204.out)) | (with_reducible refine Kd.C_alloc ?_ _) | (with_reducible refine Kd.C_drewN ?_ _) | (with_reducible refine Kd.C_drew ?_))); (case aB => exact (hB HB)); (case aF => exact (fun k_ hk => ⟨(.inr (Nat.le_trans (by first | exact HK.out.1 | exact (show Kept w _ (fun k_ => P0_0_ k_ ∨ P0_1_ k_ ∨ P0_2_ k_) from hk4_ HK GW172 GW173 GW174 GW190).1) hk)), Kd.fresh' (rl_ HO_173002) k_ hk, Kd.freshB (g := gb190) (o := .cells #[.int .i64 ((rd_T36 l0_2 a1_1).f0), .bool ((rd_T36 l0_2 a1_1).f1)] 36 (0, 0)) (ba BK190.out) k_ hk⟩)); (case aO => exact (ra HO200.out)); (case aS => exact (below_size (hB HB))); (case aL => have := LMc97.out; omega); intro v206 w159 ho hb hg hat; rw [← Ny205.out] at ho; have HO207 := Aside0.mk (ho); replace HO_173000 := Aside0.mk (Kd.R_over' (ra HO_173000.out) (Kd.R_typed (ra HO200.out)) (by decide) hg); replace HO_173001 := Aside0.mk (Kd.R_over' (ra HO_173001.out) (Kd.R_typed (ra HO200.out)) (by decide) hg); replace BK172 := Aside0.mk (blk_grown (g := gb172) (o := .cells #[.slice Ao62 l0_0.length co62, .slice Ao63 l0_1.length co63, .slice (some ad189) l0_2.length co64] 26 (0, 0)) (ba BK172.out) hg (Kd.R_ne HO200.out BK172.out (by decide))); replace BK173 := Aside0.mk (blk_grown (g := gb173) (o := .cells #[.int .i64 a1_0, .int .i64 a1_1] 28 (0, 0)) (ba BK173.out) hg (Kd.R_ne HO200.out BK173.out (by decide))); replace BK174 := Aside0.mk (blk_grown (g := gb174) (o := .cells #[.slice none 0 0, .slice none 0 0, .slice none 0 0] 26 (0, 0)) (ba BK174.out) hg (Kd.R_ne HO200.out BK174.out (by decide))); replace BK190 := Aside0.mk (blk_grown (g := gb190) (o := .cells #[.int .i64 ((rd_T36 l0_2 a1_1).f0), .bool ((rd_T36 l0_2 a1_1).f1)] 36 (0, 0)) (ba BK190.out) hg (Kd.R_away HO200.out (fun _ hk => hk.2.2))); replace HB := Aside0.mk (hb); replace HK := Aside0.mk (Kept.of_grown (S := (fun k_ => P0_0_ k_ ∨ P0_1_ k_ ∨ P0_2_ k_)) hg (hk4_ HK GW172 GW173 GW174 GW190) (fun k_ e_ => (HO200.out.1 k_ e_).1)); replace HR197 := Aside0.mk ((show Kd.C k36 w159 (some ad189) y194.length y194 from by rw [Ny194.out]; exact Kd.C_take (m := (a1_1 : Int).toNat) ((Kd.R_reads' (Kd.R_after (ok := (fun k_ => ((P0_0_ k_ ∨ P0_1_ k_ ∨ P0_2_ k_) ∨ w.heap.size ≤ k_) ∧ k_ ≠ gb190)) (ra HO_173002.out) hg hat)).2.2) KL154.out)); replace HR204 := Aside0.mk ((show Kd.C k36 w159 A158 y201.length y201 from by rw [Ny201.out, KA158.out]; exact Kd.C_drop (m := ((ji94) : Int).toNat) (c := co64) ((Kd.R_reads' (Kd.R_after (ok := (fun k_ => ((P0_0_ k_ ∨ P0_1_ k_ ∨ P0_2_ k_) ∨ w.heap.size ≤ k_) ∧ k_ ≠ gb190)) (ra HO_173002.out) hg hat)).2.2) KL158.out ((Kd.R_reads' (Kd.R_after (ok := (fun k_ => ((P0_0_ k_ ∨ P0_1_ k_ ∨ P0_2_ k_) ∨ w.heap.size ≤ k_) ∧ k_ ≠ gb190)) (ra HO_173002.out) hg hat)).2.1))); replace HO_173002 := Aside0.mk (Kd.R_after (ok := (fun k_ => ((P0_0_ k_ ∨ P0_1_ k_ ∨ P0_2_ k_) ∨ w.heap.size ≤ k_) ∧ k_ ≠ gb190)) (ra HO_173002.out) hg hat); clear HO200; clear ho hb hg hat; obtain ⟨Ao160, co160, eo160⟩ := Kd.R_slice HO207.out; subst eo160; obtain ⟨hcz161_0, hcz161_1, hcz161_2⟩ := bcs3_ BK172; obtain ⟨hfz161_0, hfz161_1, hfz161_2⟩ := bz3_ BK172; obtain ⟨hcz162_0, hcz162_1⟩ := bcs2_ BK173; obtain ⟨hcz163_0, hcz163_1, hcz163_2⟩ := bcs3_ BK174; obtain ⟨hfz163_0, hfz163_1, hfz163_2⟩ := bz3_ BK174))
      refine bodyPost_ret (results_ct rfl _ _ gb174 26 #[.slice Ao62 l0_0.length co62, .slice Ao63 l0_1.length co63, .slice Ao160 y205.length co160] (0, 0) _ rfl (bw1_ BK174 NB174_172) Try.underlying26 rfl (by kernel_rfl)) rfl ?_
      exact ⟨_, _, _, by first | rfl | (simp [errW_none, errW_some] <;> rfl) | (simp only [← hji94]; first | rfl | (simp [errW_none, errW_some] <;> rfl)) | (simp [*, errW_none, errW_some] <;> rfl), ro_ (Kd.R_far (p := ⟨gb174, 2, none⟩) (Kd.R_far (p := ⟨gb174, 1, none⟩) (Kd.R_far (p := ⟨gb174, 0, none⟩) (Kd.R_far (p := ⟨gb172, 2, none⟩) (Kd.R_types (Kd.R_types HO_173000.out BK172.out (by decide)) BK174.out (by decide)) (fun _ hk => hk.1.2) (.slice Ao160 y205.length co160)) (fun _ hk => hk.2) (.slice Ao62 l0_0.length co62)) (fun _ hk => hk.2) (.slice Ao63 l0_1.length co63)) (fun _ hk => hk.2) (.slice Ao160 y205.length co160)) (fun _ hk => hk.1.1), ro_ (Kd.R_far (p := ⟨gb174, 2, none⟩) (Kd.R_far (p := ⟨gb174, 1, none⟩) (Kd.R_far (p := ⟨gb174, 0, none⟩) (Kd.R_far (p := ⟨gb172, 2, none⟩) (Kd.R_types (Kd.R_types HO_173001.out BK172.out (by decide)) BK174.out (by decide)) (fun _ hk => hk.1.2) (.slice Ao160 y205.length co160)) (fun _ hk => hk.2) (.slice Ao62 l0_0.length co62)) (fun _ hk => hk.2) (.slice Ao63 l0_1.length co63)) (fun _ hk => hk.2) (.slice Ao160 y205.length co160)) (fun _ hk => hk.1.1), ro_ (Kd.R_far (p := ⟨gb174, 2, none⟩) (Kd.R_far (p := ⟨gb174, 1, none⟩) (Kd.R_far (p := ⟨gb174, 0, none⟩) (Kd.R_far (p := ⟨gb172, 2, none⟩) (Kd.R_types (Kd.R_types HO207.out BK172.out (by decide)) BK174.out (by decide)) (fun _ hk => hk.1.2) (.slice Ao160 y205.length co160)) (fun _ hk => hk.2) (.slice Ao62 l0_0.length co62)) (fun _ hk => hk.2) (.slice Ao63 l0_1.length co63)) (fun _ hk => hk.2) (.slice Ao160 y205.length co160)) (fun _ hk => hk.1.1.1), hB HB, hk4_ HK GW172 GW173 GW174 GW190⟩
     rw [if_pos c98] at H
     have c98b0 : (a1_0 == 2) = true := beq_iff_eq.mpr c98
     have c98b1 : (a1_0 != 2) = false := bne_eq_false_iff_eq.mpr c98
     clear c98
     obtain ⟨ji99, hji99⟩ : ∃ j_ : Int, (wrap64 (1 - ((rd_T36 l0_2 a1_1).f0))) = j_ := ⟨_, rfl⟩
     replace H : (if 0 ≤ (ji99) then (if (ji99) < (l0_0.length : Int) then ((spec_NextState.f (rd l0_0 (ji99)) ((rd_T36 l0_2 a1_1).f1)).bind fun bt209 => (if (ji99) < (l0_1.length : Int) then (some ((l0_0.set ((ji99) : Int).toNat bt209.1), (l0_1.set ((ji99) : Int).toNat 3), y205, true)) else (none))) else (none)) else (none)) = some (r1, r2, r3, r4) := by first | (rw [hji99] at H; exact H) | (simp only [hji99] at H ⊢; exact H)
     have hji99w : (IntKind.i64.wrap (1 - ((rd_T36 l0_2 a1_1).f0))) = ji99 := (i64_w _).trans hji99
     by_cases c100 : 0 ≤ (ji99)
     rotate_left
     ·rw [if_neg c100] at H
      exact absurd H (by simp)
     rw [if_pos c100] at H
     have c100b0 : decide (0 ≤ (ji99)) = true := decide_eq_true c100
     clear c100
     by_cases c101 : (ji99) < (l0_0.length : Int)
     rotate_left
     ·rw [if_neg c101] at H
      exact absurd H (by simp)
     rw [if_pos c101] at H
     have c101b0 : decide ((ji99) < (l0_0.length : Int)) = true := decide_eq_true c101
     clear c101
     replace H := Option.bind_eq_some_iff.mp H
     obtain ⟨⟨t209, t210⟩, A1020, H⟩ := H
     replace H : (if (ji99) < (l0_1.length : Int) then (some ((l0_0.set ((ji99) : Int).toNat t209), (l0_1.set ((ji99) : Int).toNat 3), y205, true)) else (none)) = some (r1, r2, r3, r4) := H
     have A102 := Aside0.mk A1020
     clear A1020
     obtain ⟨y211, hy211⟩ : ∃ y_ : List Int, y_ = (l0_0.set ((ji99) : Int).toNat t209) := ⟨_, rfl⟩
     replace H : (if (ji99) < (l0_1.length : Int) then (some (y211, (l0_1.set ((ji99) : Int).toNat 3), y205, true)) else (none)) = some (r1, r2, r3, r4) := by first | (rw [hy211]; with_reducible exact H) | (have H2_ := (Option.bind_some _ _).symm.trans H; rw [hy211]; with_reducible exact H2_) | (have H2_ := (Option.bind_some _ _).symm.trans H; with_reducible exact H2_) | with_reducible exact H | (rw [hy211]; exact H) | exact H
     have Ny211 := Aside0.mk hy211
     clear hy211
     by_cases c104 : (ji99) < (l0_1.length : Int)
     rotate_left
     ·rw [if_neg c104] at H
      exact absurd H (by simp)
     rw [if_pos c104] at H
     have c104b0 : decide ((ji99) < (l0_1.length : Int)) = true := decide_eq_true c104
     clear c104
     obtain ⟨y212, hy212⟩ : ∃ y_ : List Int, y_ = (l0_1.set ((ji99) : Int).toNat 3) := ⟨_, rfl⟩
     replace H : (some (y211, y212, y205, true)) = some (r1, r2, r3, r4) := by first | (rw [hy212]; with_reducible exact H) | (have H2_ := (Option.bind_some _ _).symm.trans H; rw [hy212]; with_reducible exact H2_) | (have H2_ := (Option.bind_some _ _).symm.trans H; with_reducible exact H2_) | with_reducible exact H | (rw [hy212]; exact H) | exact H
     have Ny212 := Aside0.mk hy212
     clear hy212
     simp only [Option.some.injEq, Prod.mk.injEq] at H
     obtain ⟨rfl, rfl, rfl, rfl⟩ := H
     obtain ⟨hnb106, hnc106⟩ := nn_ NB172_173
     obtain ⟨hnb107, hnc107⟩ := nn_ NB172_174
     obtain ⟨hcz108_0, hcz108_1, hcz108_2⟩ := bcs3_ BK172
     obtain ⟨hfz108_0, hfz108_1, hfz108_2⟩ := bz3_ BK172
     obtain ⟨hnb109, hnc109⟩ := nn_ NB173_174
     obtain ⟨hcz110_0, hcz110_1⟩ := bcs2_ BK173
     obtain ⟨hfz110_0, hfz110_1⟩ := bz2_ BK173
     have p189 : 0 ≤ (a1_1 : Int) := od_
     have q189 : a1_1 < (l0_2.length : Int) := od_
     obtain ⟨ad189, e189, hx189_0, hx189_1⟩ := at_T36 (Kd.R_reads' HO_173002.out).2.2 a1_1 p189 q189
     cases e189
     replace p189 := eq_true p189
     replace q189 := eq_true q189
     try go_wp2_with (first | ((with_reducible refine gate_dst (N := 6) rfl ?_); (try (refine gate_guard (by rfl) ?_; dsimp only)); refine bx_ev 6 #[.int .i64 0, .bool false] 36 ?_; intro gb190 hg w111 hbox hb; have BK190 := Aside0.mk (hbox); have GW190 := Aside0.mk ((by rw [hg]; exact (by first | exact HK.out.1 | exact (show Kept w _ (fun k_ => P0_0_ k_ ∨ P0_1_ k_ ∨ P0_2_ k_) from hk3_ HK GW172 GW173 GW174).1) : w.heap.size ≤ gb190)); have GE190 := gw_ hg HB; have NB172_190 := nl_ hg BK172; have NB190_172 := ng_ hg BK172; have NB173_190 := nl_ hg BK173; have NB190_173 := ng_ hg BK173; have NB174_190 := nl_ hg BK174; have NB190_174 := ng_ hg BK174; replace HO_173000 := rb_ HO_173000 hb; replace HO_173001 := rb_ HO_173001 hb; replace HO_173002 := Aside0.mk (Kd.R_below (Kd.R_elderB (ra HO_173002.out) gb190 (Nat.le_of_eq hg.symm)) hb); replace BK172 := bb_ BK172 hb; replace BK173 := bb_ BK173 hb; replace BK174 := bb_ BK174 hb; replace HK := Aside0.mk (Kept.below (S := (fun k_ => P0_0_ k_ ∨ P0_1_ k_ ∨ P0_2_ k_)) (hk3_ HK GW172 GW173 GW174) hb); replace HB := bst_ HB hb; clear hb hbox hg; obtain ⟨hnb112, hnc112⟩ := nn_ NB190_172; obtain ⟨hnb113, hnc113⟩ := nn_ NB190_173; obtain ⟨hnb114, hnc114⟩ := nn_ NB190_174; obtain ⟨hcz115_0, hcz115_1⟩ := bcs2_ BK190; obtain ⟨hfz115_0, hfz115_1⟩ := bz2_ BK190) | ((with_reducible refine gate_dst (N := 71) rfl ?_); (try (refine gate_guard (by rfl) ?_; dsimp only)); refine Kd.R_lit k36 _ 36 ?hg (N := 71) ?hd (xs := ([] : List (S36))) (inner := []) (ok := fun _ => True) (okp := fun _ => True) ?hr ?hp (fun _ hk => hk) trivial (Below.refl _ _) (Nat.le_refl _) (by simp) ?_; (case hd => rfl); (case hg => rfl); (case hr => first | (go_simp; done) | (go_simp; rfl)); (case hp => exact (Reps.none _ _)); intro v192 w116 ho117 hb hg_ hnew_; clear hg_ hnew_; (first | rw [← Ny191.out] at ho117 | (simp only [Int.reduceToNat] at ho117; rw [← Ny191.out] at ho117)); have HO193 := Aside0.mk (Kd.R_lower (Kd.R_newB (Kd.R_new' (Kd.R_newM (M := fun k_ => ((P0_0_ k_ ∨ P0_1_ k_ ∨ P0_2_ k_) ∨ w.heap.size ≤ k_)) ho117 (show Kept w _ (fun k_ => P0_0_ k_ ∨ P0_1_ k_ ∨ P0_2_ k_) from hk4_ HK GW172 GW173 GW174 GW190).1 (fun k_ h_ => .inr h_)) (Kd.R_lt (ra (Kd.R_mono (Kd.R_far (p := ⟨gb190, 1, none⟩) (Kd.R_far (p := ⟨gb190, 0, none⟩) (Kd.R_mono HO_173002.out (fun k_ hk => (⟨hk, hk.2⟩ : _ ∧ k_ ≠ gb190))) (fun _ hk => hk.2) (.int .i64 ((rd_T36 l0_2 a1_1).f0))) (fun _ hk => hk.2) (.bool ((rd_T36 l0_2 a1_1).f1))) (fun _ h_ => h_.1))))) (g := gb190) (o := .cells #[.int .i64 ((rd_T36 l0_2 a1_1).f0), .bool ((rd_T36 l0_2 a1_1).f1)] 36 (0, 0)) (bw0_ BK190)) (below_size (hB HB))); replace HO_173000 := Aside0.mk (Kd.R_below (ra (Kd.R_mono (Kd.R_far (p := ⟨gb190, 1, none⟩) (Kd.R_far (p := ⟨gb190, 0, none⟩) (Kd.R_types HO_173000.out BK190.out (by decide)) (fun _ hk => hk.2) (.int .i64 ((rd_T36 l0_2 a1_1).f0))) (fun _ hk => hk.2) (.bool ((rd_T36 l0_2 a1_1).f1))) (fun _ h_ => h_.1))) hb); replace HO_173001 := Aside0.mk (Kd.R_below (ra (Kd.R_mono (Kd.R_far (p := ⟨gb190, 1, none⟩) (Kd.R_far (p := ⟨gb190, 0, none⟩) (Kd.R_types HO_173001.out BK190.out (by decide)) (fun _ hk => hk.2) (.int .i64 ((rd_T36 l0_2 a1_1).f0))) (fun _ hk => hk.2) (.bool ((rd_T36 l0_2 a1_1).f1))) (fun _ h_ => h_.1))) hb); replace HO_173002 := Aside0.mk (Kd.R_elder' (ra (Kd.R_mono (Kd.R_far (p := ⟨gb190, 1, none⟩) (Kd.R_far (p := ⟨gb190, 0, none⟩) (Kd.R_mono HO_173002.out (fun k_ hk => (⟨hk, hk.2⟩ : _ ∧ k_ ≠ gb190))) (fun _ hk => hk.2) (.int .i64 ((rd_T36 l0_2 a1_1).f0))) (fun _ hk => hk.2) (.bool ((rd_T36 l0_2 a1_1).f1))) (fun _ h_ => h_.1))) (Kd.R_base ho117) hb); replace BK172 := Aside0.mk (blk_below (bx BK172) hb); replace BK173 := Aside0.mk (blk_below (bx BK173) hb); replace BK174 := Aside0.mk (blk_below (bx BK174) hb); replace BK190 := Aside0.mk (blk_below (g := gb190) (o := .cells #[.int .i64 ((rd_T36 l0_2 a1_1).f0), .bool ((rd_T36 l0_2 a1_1).f1)] 36 (0, 0)) (bw0_ BK190) hb); replace HK := Aside0.mk (Kept.below (S := (fun k_ => P0_0_ k_ ∨ P0_1_ k_ ∨ P0_2_ k_)) (hk4_ HK GW172 GW173 GW174 GW190) hb); replace HB := bst_ HB hb; clear hb ho117; obtain ⟨hcz118_0, hcz118_1, hcz118_2⟩ := bcs3_ BK172; obtain ⟨hfz118_0, hfz118_1, hfz118_2⟩ := bz3_ BK172; obtain ⟨hcz119_0, hcz119_1⟩ := bcs2_ BK173; have q120 : (a1_1 : Int) ≤ ((l0_2.length : Int) : Int) := od_; obtain ⟨i0120, hi0120, _, hsz120, _⟩ := info_parts info36; have hroom120 : l0_2.length ≤ co64 := (Kd.R_reads' HO_173002.out).2.1; have hC120 : Kd.C k36 _ (some ad189) l0_2.length l0_2 := (Kd.R_reads' HO_173002.out).2.2; have hcut120 := cut_to (P := Try.prog) 24 36 .i64 Try.underlying24 hi0120 (some ad189) l0_2.length co64 a1_1 (od_) q120 hroom120; have hr120 := Kd.C_take (m := (a1_1 : Int).toNat) hC120 (by omega); have hy120 : y194.length = (a1_1 : Int).toNat := (by rw [Ny194.out, List.length_take]; omega); rw [← Ny194.out] at hr120; rw [← hy120] at hcut120; have HR197 := Aside0.mk hr120; have HC197 := Aside0.mk (show y194.length ≤ co64 from by omega); clear hr120 hC120 hroom120 hi0120 hsz120; have KY120 := Aside0.mk hy120; clear hy120; have KL120 := Aside0.mk (show (a1_1 : Int).toNat ≤ l0_2.length from by omega); replace q120 := eq_true q120) | ((with_reducible refine gate_builtin (b := .append) (xs := #[.tmp 71, .tmp 76]) rfl ?_); (try (refine gate_guard (by rfl) ?_; dsimp only)); at_builtin; refine Kd.R_append_rows k36 (w0 := w0) w0.heap.size rfl (.tmp 71) (.tmp 76) 24 36 (.agg #[(.int .i64 0), (.bool false)]) 16 rfl Try.underlying24 info36 rfl (by decide) (by omega) v192 y191 y194 _ _ _ (fun k_ => ((P0_0_ k_ ∨ P0_1_ k_ ∨ P0_2_ k_) ∨ w.heap.size ≤ k_) ∧ some k_ ≠ (.slice (some ad189) l0_2.length co64 : Value).ownBlock ∧ k_ ≠ gb190) (fun _ => False) rfl rfl ?aO ?aR (fun _ _ h => h) (fun _ h => h.elim) ?aF ?aB ?aS ?aL ?_; (case aR => repeat (first | exact (by repeat (first | (with_reducible exact HR197.out) | (with_reducible refine Kd.C_alloc ?_ _) | (with_reducible refine Kd.C_drewN ?_ _) | (with_reducible refine Kd.C_drew ?_) | exact HR197.out)) | (with_reducible refine Kd.C_alloc ?_ _) | (with_reducible refine Kd.C_drewN ?_ _) | (with_reducible refine Kd.C_drew ?_))); (case aB => exact (hB HB)); (case aF => exact (fun k_ hk => ⟨(.inr (Nat.le_trans (by first | exact HK.out.1 | exact (show Kept w _ (fun k_ => P0_0_ k_ ∨ P0_1_ k_ ∨ P0_2_ k_) from hk4_ HK GW172 GW173 GW174 GW190).1) hk)), Kd.fresh' (rl_ HO_173002) k_ hk, Kd.freshB (g := gb190) (o := .cells #[.int .i64 ((rd_T36 l0_2 a1_1).f0), .bool ((rd_T36 l0_2 a1_1).f1)] 36 (0, 0)) (ba BK190.out) k_ hk⟩)); (case aO => exact (rm_ HO193 (fun _ hk => ⟨hk.1.1.1, ⟨hk.1.2, hk.2⟩⟩)).out); (case aS => exact (below_size (hB HB))); (case aL => have := LMc93.out; omega); intro v199 w121 ho hb hg hat; rw [← Ny198.out] at ho; have HO200 := Aside0.mk (ho); replace HO_173000 := Aside0.mk (Kd.R_over' (ra HO_173000.out) (Kd.R_typed (ra HO193.out)) (by decide) hg); replace HO_173001 := Aside0.mk (Kd.R_over' (ra HO_173001.out) (Kd.R_typed (ra HO193.out)) (by decide) hg); replace BK172 := Aside0.mk (blk_grown (g := gb172) (o := .cells #[.slice Ao62 l0_0.length co62, .slice Ao63 l0_1.length co63, .slice (some ad189) l0_2.length co64] 26 (0, 0)) (ba BK172.out) hg (Kd.R_ne HO193.out BK172.out (by decide))); replace BK173 := Aside0.mk (blk_grown (g := gb173) (o := .cells #[.int .i64 a1_0, .int .i64 a1_1] 28 (0, 0)) (ba BK173.out) hg (Kd.R_ne HO193.out BK173.out (by decide))); replace BK174 := Aside0.mk (blk_grown (g := gb174) (o := .cells #[.slice none 0 0, .slice none 0 0, .slice none 0 0] 26 (0, 0)) (ba BK174.out) hg (Kd.R_ne HO193.out BK174.out (by decide))); replace BK190 := Aside0.mk (blk_grown (g := gb190) (o := .cells #[.int .i64 ((rd_T36 l0_2 a1_1).f0), .bool ((rd_T36 l0_2 a1_1).f1)] 36 (0, 0)) (ba BK190.out) hg (Kd.R_away HO193.out (fun _ hk => hk.2))); replace HB := Aside0.mk (hb); replace HK := Aside0.mk (Kept.of_grown (S := (fun k_ => P0_0_ k_ ∨ P0_1_ k_ ∨ P0_2_ k_)) hg (hk4_ HK GW172 GW173 GW174 GW190) (fun k_ e_ => (HO193.out.1 k_ e_).1.1.1)); replace HR197 := Aside0.mk ((show Kd.C k36 w121 (some ad189) y194.length y194 from by rw [Ny194.out]; exact Kd.C_take (m := (a1_1 : Int).toNat) ((Kd.R_reads' (Kd.R_after (ok := (fun k_ => ((P0_0_ k_ ∨ P0_1_ k_ ∨ P0_2_ k_) ∨ w.heap.size ≤ k_) ∧ k_ ≠ gb190)) (ra HO_173002.out) hg hat)).2.2) KL120.out)); replace HO_173002 := Aside0.mk (Kd.R_after (ok := (fun k_ => ((P0_0_ k_ ∨ P0_1_ k_ ∨ P0_2_ k_) ∨ w.heap.size ≤ k_) ∧ k_ ≠ gb190)) (ra HO_173002.out) hg hat); clear HO193; clear ho hb hg hat; obtain ⟨hcz122_0, hcz122_1, hcz122_2⟩ := bcs3_ BK172; obtain ⟨hfz122_0, hfz122_1, hfz122_2⟩ := bz3_ BK172; obtain ⟨hcz123_0, hcz123_1⟩ := bcs2_ BK173; have q124 : ((ji94) : Int) ≤ ((l0_2.length : Int) : Int) := od_; obtain ⟨i0124, hi0124, _, hsz124, _⟩ := info_parts info36; have hroom124 : l0_2.length ≤ co64 := (Kd.R_reads' HO_173002.out).2.1; have hC124 : Kd.C k36 _ (some ad189) l0_2.length l0_2 := (Kd.R_reads' HO_173002.out).2.2; have q0124 : (0 : Int) ≤ ((ji94) : Int) := od_; have hcut124 := cut_from (P := Try.prog) 24 36 .i64 Try.underlying24 hi0124 2 hsz124 (some ad189) l0_2.length co64 (ji94) q0124 q124; have hr124 := Kd.C_drop (m := ((ji94) : Int).toNat) (c := co64) hC124 (by omega) hroom124; obtain ⟨A124, hA124⟩ : ∃ A1, A1 = (if co64 = ((ji94) : Int).toNat then (some ad189) else ((some ad189) : Option Addr).map (·.add (((ji94) : Int).toNat * 2))) := ⟨_, rfl⟩; obtain ⟨c124, hc124⟩ : ∃ c1, c1 = co64 - ((ji94) : Int).toNat := ⟨_, rfl⟩; have hy124 : y201.length = l0_2.length - ((ji94) : Int).toNat := (by rw [Ny201.out, List.length_drop] <;> omega); rw [show (l0_2).drop ((ji94) : Int).toNat = y201 from Ny201.out.symm] at hr124; replace hr124 : Kd.C k36 _ A124 y201.length y201 := (by rw [hA124]; exact hr124); rw [← hy124, ← hA124, ← hc124] at hcut124; have HR204 := Aside0.mk hr124; have HC204 := Aside0.mk (show y201.length ≤ c124 from by rw [hy124, hc124]; exact Nat.sub_le_sub_right hroom124 _); clear hr124 hC124 hroom124 hi0124 hsz124 hc124; have KY124 := Aside0.mk hy124; have KA124 := Aside0.mk hA124; clear hy124 hA124; have KL124 := Aside0.mk (show ((ji94) : Int).toNat ≤ l0_2.length from by omega); replace q124 := eq_true q124) | ((with_reducible refine gate_builtin (b := .append) (xs := #[.tmp 78, .tmp 84]) rfl ?_); (try (refine gate_guard (by rfl) ?_; dsimp only)); at_builtin; refine Kd.R_append_rows k36 (w0 := w0) w0.heap.size rfl (.tmp 78) (.tmp 84) 24 36 (.agg #[(.int .i64 0), (.bool false)]) 16 rfl Try.underlying24 info36 rfl (by decide) (by omega) v199 y198 y201 _ _ _ (fun k_ => ((P0_0_ k_ ∨ P0_1_ k_ ∨ P0_2_ k_) ∨ w.heap.size ≤ k_) ∧ some k_ ≠ (.slice (some ad189) l0_2.length co64 : Value).ownBlock ∧ k_ ≠ gb190) (fun _ => False) rfl rfl ?aO ?aR (fun _ _ h => h) (fun _ h => h.elim) ?aF ?aB ?aS ?aL ?_; (case aR => repeat (first | exact (by repeat (first | (with_reducible exact HR204.out) | (with_reducible refine Kd.C_alloc ?_ _) | (with_reducible refine Kd.C_drewN ?_ _) | (with_reducible refine Kd.C_drew ?_) | exact HR204.out)) | (with_reducible refine Kd.C_alloc ?_ _) | (with_reducible refine Kd.C_drewN ?_ _) | (with_reducible refine Kd.C_drew ?_))); (case aB => exact (hB HB)); (case aF => exact (fun k_ hk => ⟨(.inr (Nat.le_trans (by first | exact HK.out.1 | exact (show Kept w _ (fun k_ => P0_0_ k_ ∨ P0_1_ k_ ∨ P0_2_ k_) from hk4_ HK GW172 GW173 GW174 GW190).1) hk)), Kd.fresh' (rl_ HO_173002) k_ hk, Kd.freshB (g := gb190) (o := .cells #[.int .i64 ((rd_T36 l0_2 a1_1).f0), .bool ((rd_T36 l0_2 a1_1).f1)] 36 (0, 0)) (ba BK190.out) k_ hk⟩)); (case aO => exact (ra HO200.out)); (case aS => exact (below_size (hB HB))); (case aL => have := LMc97.out; omega); intro v206 w125 ho hb hg hat; rw [← Ny205.out] at ho; have HO207 := Aside0.mk (ho); replace HO_173000 := Aside0.mk (Kd.R_over' (ra HO_173000.out) (Kd.R_typed (ra HO200.out)) (by decide) hg); replace HO_173001 := Aside0.mk (Kd.R_over' (ra HO_173001.out) (Kd.R_typed (ra HO200.out)) (by decide) hg); replace BK172 := Aside0.mk (blk_grown (g := gb172) (o := .cells #[.slice Ao62 l0_0.length co62, .slice Ao63 l0_1.length co63, .slice (some ad189) l0_2.length co64] 26 (0, 0)) (ba BK172.out) hg (Kd.R_ne HO200.out BK172.out (by decide))); replace BK173 := Aside0.mk (blk_grown (g := gb173) (o := .cells #[.int .i64 a1_0, .int .i64 a1_1] 28 (0, 0)) (ba BK173.out) hg (Kd.R_ne HO200.out BK173.out (by decide))); replace BK174 := Aside0.mk (blk_grown (g := gb174) (o := .cells #[.slice none 0 0, .slice none 0 0, .slice none 0 0] 26 (0, 0)) (ba BK174.out) hg (Kd.R_ne HO200.out BK174.out (by decide))); replace BK190 := Aside0.mk (blk_grown (g := gb190) (o := .cells #[.int .i64 ((rd_T36 l0_2 a1_1).f0), .bool ((rd_T36 l0_2 a1_1).f1)] 36 (0, 0)) (ba BK190.out) hg (Kd.R_away HO200.out (fun _ hk => hk.2.2))); replace HB := Aside0.mk (hb); replace HK := Aside0.mk (Kept.of_grown (S := (fun k_ => P0_0_ k_ ∨ P0_1_ k_ ∨ P0_2_ k_)) hg (hk4_ HK GW172 GW173 GW174 GW190) (fun k_ e_ => (HO200.out.1 k_ e_).1)); replace HR197 := Aside0.mk ((show Kd.C k36 w125 (some ad189) y194.length y194 from by rw [Ny194.out]; exact Kd.C_take (m := (a1_1 : Int).toNat) ((Kd.R_reads' (Kd.R_after (ok := (fun k_ => ((P0_0_ k_ ∨ P0_1_ k_ ∨ P0_2_ k_) ∨ w.heap.size ≤ k_) ∧ k_ ≠ gb190)) (ra HO_173002.out) hg hat)).2.2) KL120.out)); replace HR204 := Aside0.mk ((show Kd.C k36 w125 A124 y201.length y201 from by rw [Ny201.out, KA124.out]; exact Kd.C_drop (m := ((ji94) : Int).toNat) (c := co64) ((Kd.R_reads' (Kd.R_after (ok := (fun k_ => ((P0_0_ k_ ∨ P0_1_ k_ ∨ P0_2_ k_) ∨ w.heap.size ≤ k_) ∧ k_ ≠ gb190)) (ra HO_173002.out) hg hat)).2.2) KL124.out ((Kd.R_reads' (Kd.R_after (ok := (fun k_ => ((P0_0_ k_ ∨ P0_1_ k_ ∨ P0_2_ k_) ∨ w.heap.size ≤ k_) ∧ k_ ≠ gb190)) (ra HO_173002.out) hg hat)).2.1))); replace HO_173002 := Aside0.mk (Kd.R_after (ok := (fun k_ => ((P0_0_ k_ ∨ P0_1_ k_ ∨ P0_2_ k_) ∨ w.heap.size ≤ k_) ∧ k_ ≠ gb190)) (ra HO_173002.out) hg hat); clear HO200; clear ho hb hg hat; obtain ⟨Ao126, co126, eo126⟩ := Kd.R_slice HO207.out; subst eo126; obtain ⟨hcz127_0, hcz127_1, hcz127_2⟩ := bcs3_ BK172; obtain ⟨hfz127_0, hfz127_1, hfz127_2⟩ := bz3_ BK172; obtain ⟨hcz128_0, hcz128_1⟩ := bcs2_ BK173; obtain ⟨hcz129_0, hcz129_1⟩ := bcs2_ BK190; obtain ⟨hfz129_0, hfz129_1⟩ := bz2_ BK190))
     have n0_ : Aside0 (Kd.R (Kd.int .i64) 3 (w125.setCell ⟨gb172, 2, none⟩ (.slice Ao126 y205.length co126)) w0.heap.size (fun k_ => ((P0_0_ k_ ∨ P0_1_ k_ ∨ P0_2_ k_) ∨ w.heap.size ≤ k_) ∧ no_ (.slice Ao63 l0_1.length co63) k_) (.slice Ao62 l0_0.length co62) l0_0) := ⟨ro_ (Kd.R_far (p := ⟨gb172, 2, none⟩) (Kd.R_types HO_173000.out BK172.out (by decide)) (fun _ hk => hk.2) (.slice Ao126 y205.length co126)) (fun _ hk => hk.1)⟩
     have n1_ : Aside0 (Kd.R (Kd.int .i64) 3 (w125.setCell ⟨gb172, 2, none⟩ (.slice Ao126 y205.length co126)) w0.heap.size (fun k_ => ((P0_0_ k_ ∨ P0_1_ k_ ∨ P0_2_ k_) ∨ w.heap.size ≤ k_) ∧ no_ (.slice Ao62 l0_0.length co62) k_) (.slice Ao63 l0_1.length co63) l0_1) := ⟨ro_ (Kd.R_far (p := ⟨gb172, 2, none⟩) (Kd.R_types HO_173001.out BK172.out (by decide)) (fun _ hk => hk.2) (.slice Ao126 y205.length co126)) (fun _ hk => hk.1)⟩
     have n2_ : Aside0 (Kd.R k36 36 (w125.setCell ⟨gb172, 2, none⟩ (.slice Ao126 y205.length co126)) w0.heap.size (fun k_ => ((P0_0_ k_ ∨ P0_1_ k_ ∨ P0_2_ k_) ∨ w.heap.size ≤ k_) ∧ no_ (.slice Ao126 y205.length co126) k_ ∧ k_ ≠ gb190) (.slice (some ad189) l0_2.length co64) l0_2) := ⟨ro_ (Kd.R_far (p := ⟨gb172, 2, none⟩) (Kd.R_types HO_173002.out BK172.out (by decide)) (fun _ hk => hk.2) (.slice Ao126 y205.length co126)) (fun _ hk => ⟨hk.1.1.1, ⟨hk.1.2, hk.1.1.2⟩⟩)⟩
     have n3_ : Aside0 (Kd.R k36 36 (w125.setCell ⟨gb172, 2, none⟩ (.slice Ao126 y205.length co126)) w0.heap.size (fun k_ => ((P0_0_ k_ ∨ P0_1_ k_ ∨ P0_2_ k_) ∨ w.heap.size ≤ k_) ∧ some k_ ≠ (.slice (some ad189) l0_2.length co64 : Value).ownBlock ∧ k_ ≠ gb190) (.slice Ao126 y205.length co126) y205) := ⟨ro_ (Kd.R_far (p := ⟨gb172, 2, none⟩) (Kd.R_types HO207.out BK172.out (by decide)) (fun _ hk => hk.2) (.slice Ao126 y205.length co126)) (fun _ hk => hk.1)⟩
     have n4_ : Aside0 ((w125.setCell ⟨gb172, 2, none⟩ (.slice Ao126 y205.length co126)).heap[gb172]? = some (.cells #[.slice Ao62 l0_0.length co62, .slice Ao63 l0_1.length co63, .slice Ao126 y205.length co126] 26 (0, 0))) := ⟨bw0_ BK172⟩
     have n5_ : Aside0 ((w125.setCell ⟨gb172, 2, none⟩ (.slice Ao126 y205.length co126)).heap[gb173]? = some (.cells #[.int .i64 a1_0, .int .i64 a1_1] 28 (0, 0))) := ⟨bw1_ BK173 NB173_172⟩
     have n6_ : Aside0 ((w125.setCell ⟨gb172, 2, none⟩ (.slice Ao126 y205.length co126)).heap[gb174]? = some (.cells #[.slice none 0 0, .slice none 0 0, .slice none 0 0] 26 (0, 0))) := ⟨bw1_ BK174 NB174_172⟩
     have n7_ : Aside0 ((w125.setCell ⟨gb172, 2, none⟩ (.slice Ao126 y205.length co126)).heap[gb190]? = some (.cells #[.int .i64 ((rd_T36 l0_2 a1_1).f0), .bool ((rd_T36 l0_2 a1_1).f1)] 36 (0, 0))) := ⟨bw1_ BK190 NB190_172⟩
     have n8_ : Aside0 (Kept w (w125.setCell ⟨gb172, 2, none⟩ (.slice Ao126 y205.length co126)) (fun k_ => P0_0_ k_ ∨ P0_1_ k_ ∨ P0_2_ k_)) := ⟨hk4_ HK GW172 GW173 GW174 GW190⟩
     have n9_ : Aside0 (Below w0.heap.size w0 (w125.setCell ⟨gb172, 2, none⟩ (.slice Ao126 y205.length co126))) := ⟨hB HB⟩
     (try clear HO_173000)
     (try clear HO_173001)
     (try clear HO_173002)
     (try clear HO207)
     (try clear BK172)
     (try clear BK173)
     (try clear BK174)
     (try clear BK190)
     (try clear HK)
     (try clear HB)
     generalize (w125.setCell ⟨gb172, 2, none⟩ (.slice Ao126 y205.length co126)) = w130 at n0_ n1_ n2_ n3_ n4_ n5_ n6_ n7_ n8_ n9_ ⊢
     have HO_173000 := n0_
     have HO_173001 := n1_
     have HO_173002 := n2_
     have HO207 := n3_
     have BK172 := n4_
     have BK173 := n5_
     have BK174 := n6_
     have BK190 := n7_
     have HK := n8_
     have HB := n9_
     clear n0_ n1_ n2_ n3_ n4_ n5_ n6_ n7_ n8_ n9_
     replace HO_173000 := rd_ HO_173000
     replace HO_173001 := rd_ HO_173001
     replace HO_173002 := rd_ HO_173002
     replace HO207 := rd_ HO207
     replace BK172 := bd_ BK172
     replace BK173 := bd_ BK173
     replace BK174 := bd_ BK174
     replace BK190 := bd_ BK190
     replace HK := Aside0.mk (Kept.drew HK.out)
     replace HB := Aside0.mk (below_drew1 HB.out)
     have p208 : 0 ≤ ((ji99) : Int) := od_
     have q208 : (ji99) < (l0_0.length : Int) := od_
     obtain ⟨ad208, e208, hx208_0⟩ := Kd.at_int (Kd.R_reads' HO_173000.out).2.2 (ji99) p208 q208
     cases e208
     replace p208 := eq_true p208
     replace q208 := eq_true q208
     refine start_ (n := 13) (S := fun w' => w'.cell? ⟨gb172, 0, none⟩ = some (.slice (some ad208) l0_0.length co62) ∧ w'.cell? ⟨gb172, 1, none⟩ = some (.slice Ao63 l0_1.length co63) ∧ w'.cell? ⟨gb172, 2, none⟩ = some (.slice Ao126 y205.length co126) ∧ w'.cell? ⟨gb190, 0, none⟩ = some (.int .i64 ((rd_T36 l0_2 a1_1).f0)) ∧ w'.cell? ⟨gb190, 1, none⟩ = some (.bool ((rd_T36 l0_2 a1_1).f1)) ∧ w'.cell? (ad208.add ((ji99)).toNat) = some (.int .i64 (rd l0_0 (ji99)))) (ds := []) (bs 13 0) (by kernel_rfl) rfl rfl ⟨bc_ BK172 0, bc_ BK172 1, bc_ BK172 2, bc_ BK190 0, bc_ BK190 1, hx208_0⟩ (fun hHeld => ?_); refine with_tabW spec_l3Step.tab19 spec_l3Step.bits19 (fun HT_ HW_ => ?_)
     generalize w130.drew = w131 at HO_173000 HO_173001 HO_173002 HO207 BK172 BK173 BK174 BK190 HK HB hx208_0 hHeld ⊢
     refine pu_ 0 94 (bs 13 1) HT_ ?_
     refine pu_ 2 96 (bs 13 5) HT_ ?_
     refine pu_ 5 99 (bs 13 37) HT_ ?_
     refine tk_ 1 95 (bs 13 39) HT_ HW_ hHeld ?_
     refine pu_ 3 97 (bs 13 47) HT_ ?_
     refine tk_ 4 98 (bs 13 63) HT_ HW_ hHeld ?_
     refine tk_ 6 100 (bs 13 127) HT_ HW_ hHeld ?_
     refine on_ 7 (some 101) (bs 13 255) HT_ (fun K hK => ?_)
     refine goes_ Try.func39 (by kernel_rfl) rfl #[.int .i64 (rd l0_0 (ji99)), .bool ((rd_T36 l0_2 a1_1).f1)] (by rfl) rfl rfl (by (try simp only [List.map_toArray, List.map_cons, List.map_nil]); first | done | (simp only [hji99]; rfl) | rfl | (simp only [List.length_drop, List.length_take]; rfl)) ?_
     with_reducible refine (spec_NextState.calls (rd l0_0 (ji99)) ((rd_T36 l0_2 a1_1).f1) t209 t210 _ A102.out).mono ?_
     rintro e w' ⟨rfl, ⟨nd, rfl⟩⟩
     refine ⟨_, rfl, ?_⟩
     generalize hq_ : World.drewN w131 nd = w131
     replace HO_173000 := Aside0.mk (Kd.R_at hq_ HO_173000.out)
     replace HO_173001 := Aside0.mk (Kd.R_at hq_ HO_173001.out)
     replace HO_173002 := Aside0.mk (Kd.R_at hq_ HO_173002.out)
     replace HO207 := Aside0.mk (Kd.R_at hq_ HO207.out)
     replace BK172 := Aside0.mk (blk_at hq_ BK172.out)
     replace BK173 := Aside0.mk (blk_at hq_ BK173.out)
     replace BK174 := Aside0.mk (blk_at hq_ BK174.out)
     replace BK190 := Aside0.mk (blk_at hq_ BK190.out)
     replace HK := Aside0.mk (kept_at hq_ HK.out)
     replace HB := Aside0.mk (below_at hq_ HB.out)
     try replace hx208_0 := cell_at hq_ hx208_0
     have HQ_ := Aside0.mk hq_
     clear hq_
     refine hK.out _ _ ⟨bc_ BK172 0, bc_ BK172 1, bc_ BK172 2, bc_ BK190 0, bc_ BK190 1, (cell_at HQ_.out hHeld.2.2.2.2.2)⟩ (fun hHeld => ?_)
     clear hK K
     refine nm_ 101 ?_
     refine pu_ 8 93 (bs 13 511) HT_ ?_
     refine pu_ 9 102 (bs 13 1023) HT_ ?_
     refine pu_ 10 103 (bs 13 2047) HT_ ?_
     refine pu_ 11 9 (bs 13 4095) HT_ ?_
     refine pu_ 12 10 (bs 13 8191) HT_ ?_
     refine done_ (done_of HT_.out (by kernel_rfl)) ?_
     obtain ⟨hcz132_0, hcz132_1, hcz132_2⟩ := bcs3_ BK172
     obtain ⟨hfz132_0, hfz132_1, hfz132_2⟩ := bz3_ BK172
     have p103 : 0 ≤ ((ji99) : Int) := od_
     have q103 : ((ji99) : Int) < ((l0_0.length : Int) : Int) := od_
     obtain ⟨go103, co103, eo103, gb103, gl103, cl103, HG103⟩ := Kd.R_form HO_173000.out (by omega)
     (first | cases eo103 | (injection eo103 with ea_ en_ ec_; (first | subst ea_ | (injection ea_ with ea_; subst ea_)); subst ec_; clear en_))
     have GB103 := Aside0.mk gb103
     have GG103 := Aside0.mk HG103
     clear gb103 gl103 HG103
     have HMgo103 := Aside0.mk (show ((P0_0_ go103 ∨ P0_1_ go103 ∨ P0_2_ go103) ∨ w.heap.size ≤ go103) from (HO_173000.out.1 _ rfl).1)
     (first | simp only [add_plain] at hx208_0 | skip)
     obtain ⟨hx103_0, hf103_0⟩ := Kd.R_celln 0 HO_173000.out ((ji99) : Int) p103 q103
     replace p103 := eq_true p103
     replace q103 := eq_true q103
     obtain ⟨hy133_, hz133_⟩ := Kd.R_celln 0 HO_173000.out ((ji99) : Int) (od_) (od_)
     have HP133 := Kd.R_putg HO_173000.out ((ji99) : Int) t209
     try go_wp2_with (first | ((with_reducible refine gate_store (t := 3) (p := 108) rfl ?_); refine store_event (t := 3) (p := 108) (v := ?vo_w134) (w1 := (w131.setCell ⟨go103, ((ji99) : Int).toNat, none⟩ (.int .i64 t209))) ?hg ?ho ?hn ?hr ?_; (case ho => rfl); (case hg => rfl); (case hn => rfl); (case hr => first | (go_simp; done) | (go_simp; rfl)); intro w134 hw; have hg : w131.grownBy w134 (some go103) := (by rw [hw]; exact HP133.2); have hp_ : Kd.R (Kd.int .i64) 3 w134 w0.heap.size (fun k_ => ((P0_0_ k_ ∨ P0_1_ k_ ∨ P0_2_ k_) ∨ w.heap.size ≤ k_) ∧ no_ (.slice Ao63 l0_1.length co63) k_) (.slice (some ⟨go103, 0, none⟩) l0_0.length co62) y211 := (by rw [hw, Ny211.out]; exact HP133.1); clear HP133; replace HO_173001 := Aside0.mk (Kd.R_after (v := (.slice (some ⟨go103, 0, none⟩) l0_0.length co62)) (v1 := (.slice (some ⟨go103, 0, none⟩) l0_0.length co62)) (ok := (fun k_ => ((P0_0_ k_ ∨ P0_1_ k_ ∨ P0_2_ k_) ∨ w.heap.size ≤ k_))) (ra HO_173001.out) hg (.inl rfl)); replace HO_173002 := Aside0.mk (Kd.R_over' (v := (.slice (some ⟨go103, 0, none⟩) l0_0.length co62)) (ra HO_173002.out) (Kd.R_typed HO_173000.out) (by decide) hg); replace BK172 := Aside0.mk (blk_grown (g := gb172) (o := .cells #[.slice (some ⟨go103, 0, none⟩) l0_0.length co62, .slice Ao63 l0_1.length co63, .slice Ao126 y205.length co126] 26 (0, 0)) (ba BK172.out) hg (Kd.R_ne HO_173000.out BK172.out (by decide))); replace BK173 := Aside0.mk (blk_grown (g := gb173) (o := .cells #[.int .i64 a1_0, .int .i64 a1_1] 28 (0, 0)) (ba BK173.out) hg (Kd.R_ne HO_173000.out BK173.out (by decide))); replace BK174 := Aside0.mk (blk_grown (g := gb174) (o := .cells #[.slice none 0 0, .slice none 0 0, .slice none 0 0] 26 (0, 0)) (ba BK174.out) hg (Kd.R_ne HO_173000.out BK174.out (by decide))); replace BK190 := Aside0.mk (blk_grown (g := gb190) (o := .cells #[.int .i64 ((rd_T36 l0_2 a1_1).f0), .bool ((rd_T36 l0_2 a1_1).f1)] 36 (0, 0)) (ba BK190.out) hg (Kd.R_ne HO_173000.out BK190.out (by decide))); replace HO207 := Aside0.mk (Kd.R_over' (v := (.slice (some ⟨go103, 0, none⟩) l0_0.length co62)) (ra HO207.out) (Kd.R_typed HO_173000.out) (by decide) hg); replace HB := Aside0.mk ((by rw [hw]; exact below_set (HB.out) GB103.out : Below w0.heap.size w0 w134)); replace HK := Aside0.mk (Kept.of_grown (S := (fun k_ => P0_0_ k_ ∨ P0_1_ k_ ∨ P0_2_ k_)) hg (hk4_ HK GW172 GW173 GW174 GW190) (fun k_ e_ => (HO_173000.out.1 k_ e_).1)); replace HO_173000 := Aside0.mk (hp_); clear hg hw hp_; obtain ⟨hcz135_0, hcz135_1, hcz135_2⟩ := bcs3_ BK172; obtain ⟨hfz135_0, hfz135_1, hfz135_2⟩ := bz3_ BK172; have p105 : 0 ≤ ((ji99) : Int) := od_; have q105 : ((ji99) : Int) < ((l0_1.length : Int) : Int) := od_; obtain ⟨go105, co105, eo105, gb105, gl105, cl105, HG105⟩ := Kd.R_form HO_173001.out (by omega); (first | cases eo105 | (injection eo105 with ea_ en_ ec_; (first | subst ea_ | (injection ea_ with ea_; subst ea_)); subst ec_; clear en_)); have GB105 := Aside0.mk gb105; have GG105 := Aside0.mk HG105; clear gb105 gl105 HG105; have HMgo105 := Aside0.mk (show ((P0_0_ go105 ∨ P0_1_ go105 ∨ P0_2_ go105) ∨ w.heap.size ≤ go105) from (HO_173001.out.1 _ rfl).1); obtain ⟨hx105_0, hf105_0⟩ := Kd.R_celln 0 HO_173001.out ((ji99) : Int) p105 q105; replace p105 := eq_true p105; replace q105 := eq_true q105; obtain ⟨hy136_, hz136_⟩ := Kd.R_celln 0 HO_173001.out ((ji99) : Int) (od_) (od_); have HP136 := Kd.R_putg HO_173001.out ((ji99) : Int) 3) | ((with_reducible refine gate_store (t := 3) (p := 112) rfl ?_); refine store_event (t := 3) (p := 112) (v := ?vo_w137) (w1 := (w134.setCell ⟨go105, ((ji99) : Int).toNat, none⟩ (.int .i64 3))) ?hg ?ho ?hn ?hr ?_; (case ho => rfl); (case hg => rfl); (case hn => rfl); (case hr => first | (go_simp; done) | (go_simp; rfl)); intro w137 hw; have hg : w134.grownBy w137 (some go105) := (by rw [hw]; exact HP136.2); have hp_ : Kd.R (Kd.int .i64) 3 w137 w0.heap.size (fun k_ => ((P0_0_ k_ ∨ P0_1_ k_ ∨ P0_2_ k_) ∨ w.heap.size ≤ k_) ∧ some k_ ≠ (.slice (some ⟨go103, 0, none⟩) l0_0.length co62 : Value).ownBlock) (.slice (some ⟨go105, 0, none⟩) l0_1.length co63) y212 := (by rw [hw, Ny212.out]; exact HP136.1); clear HP136; replace HO_173000 := Aside0.mk (Kd.R_after (v := (.slice (some ⟨go105, 0, none⟩) l0_1.length co63)) (v1 := (.slice (some ⟨go105, 0, none⟩) l0_1.length co63)) (ok := (fun k_ => ((P0_0_ k_ ∨ P0_1_ k_ ∨ P0_2_ k_) ∨ w.heap.size ≤ k_))) (ra HO_173000.out) hg (.inl rfl)); replace HO_173002 := Aside0.mk (Kd.R_over' (v := (.slice (some ⟨go105, 0, none⟩) l0_1.length co63)) (ra HO_173002.out) (Kd.R_typed HO_173001.out) (by decide) hg); replace BK172 := Aside0.mk (blk_grown (g := gb172) (o := .cells #[.slice (some ⟨go103, 0, none⟩) l0_0.length co62, .slice (some ⟨go105, 0, none⟩) l0_1.length co63, .slice Ao126 y205.length co126] 26 (0, 0)) (ba BK172.out) hg (Kd.R_ne HO_173001.out BK172.out (by decide))); replace BK173 := Aside0.mk (blk_grown (g := gb173) (o := .cells #[.int .i64 a1_0, .int .i64 a1_1] 28 (0, 0)) (ba BK173.out) hg (Kd.R_ne HO_173001.out BK173.out (by decide))); replace BK174 := Aside0.mk (blk_grown (g := gb174) (o := .cells #[.slice none 0 0, .slice none 0 0, .slice none 0 0] 26 (0, 0)) (ba BK174.out) hg (Kd.R_ne HO_173001.out BK174.out (by decide))); replace BK190 := Aside0.mk (blk_grown (g := gb190) (o := .cells #[.int .i64 ((rd_T36 l0_2 a1_1).f0), .bool ((rd_T36 l0_2 a1_1).f1)] 36 (0, 0)) (ba BK190.out) hg (Kd.R_ne HO_173001.out BK190.out (by decide))); replace HO207 := Aside0.mk (Kd.R_over' (v := (.slice (some ⟨go105, 0, none⟩) l0_1.length co63)) (ra HO207.out) (Kd.R_typed HO_173001.out) (by decide) hg); replace HB := Aside0.mk ((by rw [hw]; exact below_set (HB.out) GB105.out : Below w0.heap.size w0 w137)); replace HK := Aside0.mk (Kept.of_grown (S := (fun k_ => P0_0_ k_ ∨ P0_1_ k_ ∨ P0_2_ k_)) hg (hk4_ HK GW172 GW173 GW174 GW190) (fun k_ e_ => (HO_173001.out.1 k_ e_).1)); replace HO_173001 := Aside0.mk (hp_); clear hg hw hp_; obtain ⟨hcz138_0, hcz138_1, hcz138_2⟩ := bcs3_ BK172; obtain ⟨hfz138_0, hfz138_1, hfz138_2⟩ := bz3_ BK172; obtain ⟨hcz139_0, hcz139_1, hcz139_2⟩ := bcs3_ BK174; obtain ⟨hfz139_0, hfz139_1, hfz139_2⟩ := bz3_ BK174))
     refine bodyPost_ret (results_ct rfl _ _ gb174 26 #[.slice (some ⟨go103, 0, none⟩) l0_0.length co62, .slice (some ⟨go105, 0, none⟩) l0_1.length co63, .slice Ao126 y205.length co126] (0, 0) _ rfl (bw0_ BK174) Try.underlying26 rfl (by kernel_rfl)) rfl ?_
     exact ⟨_, _, _, by first | rfl | (simp [errW_none, errW_some] <;> rfl) | (simp only [← hji94, ← hji99]; first | rfl | (simp [errW_none, errW_some] <;> rfl)) | (simp [*, errW_none, errW_some] <;> rfl), ro_ (fs3_ HO_173000.out BK174.out) (fun _ hk => hk.1), ro_ (fs3_ HO_173001.out BK174.out) (fun _ hk => hk.1), ro_ (fs3_ HO207.out BK174.out) (fun _ hk => hk.1.1), hB HB, hk4_ HK GW172 GW173 GW174 GW190⟩

end Go.Proofs.Ytefdgdloghhnaaa.P
