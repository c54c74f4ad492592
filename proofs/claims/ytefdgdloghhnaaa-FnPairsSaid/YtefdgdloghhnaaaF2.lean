import Derived.Test.YtefdgdloghhnaaaF0
import Derived.Test.YtefdgdloghhnaaaF1
namespace Go.Proofs.Ytefdgdloghhnaaa.P
open Go.RowKit Go.Proofs.YtefdgdloghhnaaaW.PrintWords Go.Proofs.YtefdgdloghhnaaaW.PrintLast Go.Proofs.YtefdgdloghhnaaaW.PrintMore
attribute [local go_sem] max2_int min2_int max_two min_two max_three min_three max_four min_four   -- for this text's walks alone
set_option linter.unusedVariables false
set_option linter.unusedSimpArgs false
attribute [local go_sem high] eqA36

def spec_l3Tick.l0 : Nat → Int → Int → List Int → List Int → List (S36) → Option (List Int × List Int × (List (S36)))
 | 0, _, _, _, _, _ => none
 | k + 1, x6, x7, x165000, x165001, x165002 => if x7 < x6 then (if 0 ≤ x7 then (if x7 < (x165000.length : Int) then (if (rd x165000 x7) = 0 then (spec_l3Tick.l0 k x6 (wrap64 (x7 + 1)) x165000 x165001 x165002) else (if x7 < (x165001.length : Int) then ((some (x165001.set (x7 : Int).toNat (wrap64 ((rd x165001 x7) - 1)) : List Int)).bind fun y168 => (if (rd y168 x7) = 0 then (spec_l3Tick.l0 k x6 (wrap64 (x7 + 1)) (x165000.set (x7 : Int).toNat 0) y168 x165002) else (spec_l3Tick.l0 k x6 (wrap64 (x7 + 1)) x165000 y168 x165002))) else (none))) else (none)) else (none)) else (some (x165000, x165001, x165002))
def spec_l3Tick.f (k : Nat) (l0_0 : List Int) (l0_1 : List Int) (l0_2 : List (S36)) : Option (List Int × List Int × (List (S36))) := spec_l3Tick.l0 k (l0_0.length : Int) 0 l0_0 l0_1 l0_2
theorem spec_l3Tick.mono_l : ∀ k, (∀ y0 y1 y2 y3 y4, LeO (spec_l3Tick.l0 k y0 y1 y2 y3 y4) (spec_l3Tick.l0 (k + 1) y0 y1 y2 y3 y4))
 | 0 => fun _ _ _ _ _ r h => by simp [spec_l3Tick.l0] at h
 | k + 1 => by
  have ih0 := spec_l3Tick.mono_l k
  ·intro y0 y1 y2 y3 y4
   unfold spec_l3Tick.l0
   repeat' first
   | (with_reducible exact ih0 _ _ _ _ _)
   | with_reducible first | exact LeO.refl _ | exact LeO.none _ | refine LeO.ite ?_ ?_ | refine LeO.bind ?_ fun _ => ?_
theorem spec_l3Tick.mono : ∀ a0 a1 a2 k, LeO (spec_l3Tick.f k a0 a1 a2) (spec_l3Tick.f (k + 1) a0 a1 a2) := by
 intro a0 a1 a2 k
 have ih0 := spec_l3Tick.mono_l k
 unfold spec_l3Tick.f
 repeat' first
   | (with_reducible exact ih0 _ _ _ _ _)
   | with_reducible first | exact LeO.refl _ | exact LeO.none _ | refine LeO.ite ?_ ?_ | refine LeO.bind ?_ fun _ => ?_
set_option maxHeartbeats 8000000 in
set_option maxRecDepth 100000 in
theorem spec_l3Tick.calls (k : Nat) (P0_0_ : Nat → Prop) (u9000_ : Value) (l0_0 : List Int) (P0_1_ : Nat → Prop) (u9001_ : Value) (l0_1 : List Int) (P0_2_ : Nat → Prop) (u9002_ : Value) (l0_2 : List (S36)) (r1 : List Int) (r2 : List Int) (r3 : List (S36)) (w0 w : World) (hB : Below w0.heap.size w0 w) (ho0_0 : Kd.R (Kd.int .i64) 3 w w0.heap.size P0_0_ u9000_ l0_0) (hp0_0_0_1 : ∀ k_, P0_0_ k_ → ¬ P0_1_ k_) (ho0_1 : Kd.R (Kd.int .i64) 3 w w0.heap.size P0_1_ u9001_ l0_1) (hp0_1_0_0 : ∀ k_, P0_1_ k_ → ¬ P0_0_ k_) (ho0_2 : Kd.R k36 36 w w0.heap.size P0_2_ u9002_ l0_2) (h : spec_l3Tick.f k l0_0 l0_1 l0_2 = some (r1, r2, r3)) :
  Calls Try.prog 38 #[.agg #[u9000_, u9001_, u9002_]] w fun e w' => ∃ v0_ v1_ v2_ : Value, e = .returned (.agg #[v0_, v1_, v2_]) ∧ Kd.R (Kd.int .i64) 3 w' w0.heap.size (fun k_ => ((P0_0_ k_ ∨ P0_1_ k_ ∨ P0_2_ k_) ∨ w.heap.size ≤ k_) ∧ no_ v1_ k_) v0_ r1 ∧ Kd.R (Kd.int .i64) 3 w' w0.heap.size (fun k_ => ((P0_0_ k_ ∨ P0_1_ k_ ∨ P0_2_ k_) ∨ w.heap.size ≤ k_) ∧ no_ v0_ k_) v1_ r2 ∧ Kd.R k36 36 w' w0.heap.size (fun k_ => ((P0_0_ k_ ∨ P0_1_ k_ ∨ P0_2_ k_) ∨ w.heap.size ≤ k_)) v2_ r3 ∧ Below w0.heap.size w0 w' ∧ Kept w w' (fun k_ => P0_0_ k_ ∨ P0_1_ k_ ∨ P0_2_ k_) := by
 have hu26 := Try.underlying26
 have HO0_0 := Aside0.mk (show Kd.R (Kd.int .i64) 3 w w0.heap.size (fun k_ => ((P0_0_ k_ ∨ P0_1_ k_ ∨ P0_2_ k_) ∨ w.heap.size ≤ k_) ∧ some k_ ≠ (u9001_ : Value).ownBlock) u9000_ l0_0 from Kd.R_mono ho0_0 (fun k_ hk => ⟨(.inl (.inl hk)), fun e_ => hp0_0_0_1 k_ hk (ho0_1.1 k_ e_.symm)⟩))
 have HO0_1 := Aside0.mk (show Kd.R (Kd.int .i64) 3 w w0.heap.size (fun k_ => ((P0_0_ k_ ∨ P0_1_ k_ ∨ P0_2_ k_) ∨ w.heap.size ≤ k_) ∧ some k_ ≠ (u9000_ : Value).ownBlock) u9001_ l0_1 from Kd.R_mono ho0_1 (fun k_ hk => ⟨(.inl (.inr (.inl hk))), fun e_ => hp0_1_0_0 k_ hk (ho0_0.1 k_ e_.symm)⟩))
 have HO0_2 := Aside0.mk (show Kd.R k36 36 w w0.heap.size (fun k_ => ((P0_0_ k_ ∨ P0_1_ k_ ∨ P0_2_ k_) ∨ w.heap.size ≤ k_)) u9002_ l0_2 from Kd.R_mono ho0_2 (fun k_ hk => (.inl (.inr (.inr hk)))))
 have HK := Aside0.mk (Kept.refl w (fun k_ => P0_0_ k_ ∨ P0_1_ k_ ∨ P0_2_ k_))
 have HW0 := Aside0.mk hB.size
 have HB := Aside0.mk hB
 clear hB
 have H : (spec_l3Tick.l0 k (l0_0.length : Int) 0 l0_0 l0_1 l0_2) = some (r1, r2, r3) := h
 clear h
 have H' := Aside0.mk H
 clear H
 obtain ⟨Ao2, co2, eo2⟩ := Kd.R_slice HO0_0.out
 subst eo2
 obtain ⟨Ao3, co3, eo3⟩ := Kd.R_slice HO0_1.out
 subst eo3
 obtain ⟨Ao4, co4, eo4⟩ := Kd.R_slice HO0_2.out
 subst eo4
 go_enter Try.func38, Try.ntmps38
 go_wp2_with (first | ((with_reducible refine gate_dst (N := 1) rfl ?_); refine bx_ev 1 #[.slice Ao2 l0_0.length co2, .slice Ao3 l0_1.length co3, .slice Ao4 l0_2.length co4] 26 ?_; intro gb164 hg w5 hbox hb; have BK164 := Aside0.mk (hbox); have GW164 := Aside0.mk ((by rw [hg]; exact (by first | exact HK.out.1 | exact (show Kept w _ (fun k_ => P0_0_ k_ ∨ P0_1_ k_ ∨ P0_2_ k_) from hk_ HK).1) : w.heap.size ≤ gb164)); have GE164 := gw_ hg HB; replace HO0_0 := rb_ HO0_0 hb; replace HO0_1 := rb_ HO0_1 hb; replace HO0_2 := rb_ HO0_2 hb; replace HK := Aside0.mk (Kept.below (S := (fun k_ => P0_0_ k_ ∨ P0_1_ k_ ∨ P0_2_ k_)) (hk_ HK) hb); replace HB := bst_ HB hb; clear hb hbox hg) | ((with_reducible refine gate_dst (N := 2) rfl ?_); refine bx_ev 2 #[.slice none 0 0, .slice none 0 0, .slice none 0 0] 26 ?_; intro gb165 hg w6 hbox hb; have BK165 := Aside0.mk (hbox); have GW165 := Aside0.mk ((by rw [hg]; exact (by first | exact HK.out.1 | exact (show Kept w _ (fun k_ => P0_0_ k_ ∨ P0_1_ k_ ∨ P0_2_ k_) from hk1_ HK GW164).1) : w.heap.size ≤ gb165)); have GE165 := gw_ hg HB; have NB164_165 := nl_ hg BK164; have NB165_164 := ng_ hg BK164; replace HO0_0 := rb_ HO0_0 hb; replace HO0_1 := rb_ HO0_1 hb; replace HO0_2 := rb_ HO0_2 hb; replace BK164 := bb_ BK164 hb; replace HK := Aside0.mk (Kept.below (S := (fun k_ => P0_0_ k_ ∨ P0_1_ k_ ∨ P0_2_ k_)) (hk1_ HK GW164) hb); replace HB := bst_ HB hb; clear hb hbox hg; obtain ⟨hnb7, hnc7⟩ := nn_ NB164_165; obtain ⟨hcz8_0, hcz8_1, hcz8_2⟩ := bcs3_ BK164))
 go_loopg [7] k (fun kq v7 w' => ∃ (x7_1 : Int) (x165000_1 : List Int) (x165001_1 : List Int) (u165000 : Value) (u165001 : Value), v7 = .int .i64 x7_1 ∧ Aside0 (spec_l3Tick.l0 kq (l0_0.length : Int) x7_1 x165000_1 x165001_1 l0_2 = some (r1, r2, r3)) ∧ Aside0 (kq ≤ k) ∧ Aside0 (Kd.R (Kd.int .i64) 3 w' w0.heap.size (fun k_ => ((P0_0_ k_ ∨ P0_1_ k_ ∨ P0_2_ k_) ∨ w.heap.size ≤ k_) ∧ some k_ ≠ (u165001 : Value).ownBlock) u165000 x165000_1) ∧ Aside0 (Kd.R (Kd.int .i64) 3 w' w0.heap.size (fun k_ => ((P0_0_ k_ ∨ P0_1_ k_ ∨ P0_2_ k_) ∨ w.heap.size ≤ k_) ∧ some k_ ≠ (u165000 : Value).ownBlock) u165001 x165001_1) ∧ Aside0 (Kd.R k36 36 w' w0.heap.size (fun k_ => ((P0_0_ k_ ∨ P0_1_ k_ ∨ P0_2_ k_) ∨ w.heap.size ≤ k_)) (.slice Ao4 l0_2.length co4) l0_2) ∧ Aside0 (w'.heap[gb164]? = some (.cells #[u165000, u165001, (.slice Ao4 l0_2.length co4)] 26 (0, 0))) ∧ Aside0 (w'.heap[gb165]? = some (.cells #[(.slice none 0 0), (.slice none 0 0), (.slice none 0 0)] 26 (0, 0))) ∧ Aside0 (Kept w w' (fun k_ => P0_0_ k_ ∨ P0_1_ k_ ∨ P0_2_ k_)) ∧ Aside0 (Below w0.heap.size w0 w'))
 case atStart => exact ⟨(0), (l0_0), (l0_1), (.slice Ao2 l0_0.length co2), (.slice Ao3 l0_1.length co3), (by first | rfl | (simp; done) | (simp [*]; done)), H', ⟨Nat.le_refl _⟩, ⟨ra HO0_0.out⟩, ⟨ra HO0_1.out⟩, ⟨ra HO0_2.out⟩, ⟨bw0_ BK164⟩, ⟨bw0_ BK165⟩, ⟨hk2_ HK GW164 GW165⟩, ⟨hB HB⟩⟩
 case round =>
  clear H'
  try clear hcz8_0
  try clear hcz8_1
  try clear hcz8_2
  try clear hfz8_0
  try clear hfz8_1
  try clear hfz8_2
  obtain ⟨x7_1, x165000_1, x165001_1, u165000, u165001, rfl, HA, HK1, HO_165000, HO_165001, HO_165002, BK164, BK165, HK, HB⟩ := hrel
  cases gk with
  | zero => exact absurd HA.out (by simp [spec_l3Tick.l0])
  | succ k1 =>
   have H := HA.out
   clear HA
   simp only [spec_l3Tick.l0] at H
   by_cases c9 : x7_1 < (l0_0.length : Int)
   rotate_left
   ·rw [if_neg c9] at H
    have c9b0 : decide (x7_1 < (l0_0.length : Int)) = false := decide_eq_false c9
    clear c9
    simp only [Option.some.injEq, Prod.mk.injEq] at H
    obtain ⟨rfl, rfl, rfl⟩ := H
    obtain ⟨hnb36, hnc36⟩ := nn_ NB164_165
    obtain ⟨hcz37_0, hcz37_1, hcz37_2⟩ := bcs3_ BK164
    obtain ⟨hfz37_0, hfz37_1, hfz37_2⟩ := bz3_ BK164
    obtain ⟨Ao38, co38, eo38⟩ := Kd.R_slice HO_165000.out
    subst eo38
    obtain ⟨hcz39_0, hcz39_1, hcz39_2⟩ := bcs3_ BK165
    obtain ⟨hfz39_0, hfz39_1, hfz39_2⟩ := bz3_ BK165
    obtain ⟨Ao40, co40, eo40⟩ := Kd.R_slice HO_165001.out
    subst eo40
    go_wp2
    refine bodyPost_ret (results_cell_row rfl _ _ gb165 26 #[.slice Ao38 x165000_1.length co38, .slice Ao40 x165001_1.length co40, .slice Ao4 l0_2.length co4] (0, 0) _ rfl (bw0_ BK165) Try.underlying26 rfl (by kernel_rfl)) rfl ?_
    exact ⟨_, _, _, rt_, ro_ (fs3_ HO_165000.out BK165.out) (fun _ hk => hk.1), ro_ (fs3_ HO_165001.out BK165.out) (fun _ hk => hk.1), ro_ (fs3_ HO_165002.out BK165.out) (fun _ hk => hk.1), hB HB, hk2_ HK GW164 GW165⟩
   rw [if_pos c9] at H
   have c9b0 : decide (x7_1 < (l0_0.length : Int)) = true := decide_eq_true c9
   clear c9
   by_cases c10 : 0 ≤ x7_1
   rotate_left
   ·rw [if_neg c10] at H
    exact absurd H (by simp)
   rw [if_pos c10] at H
   have c10b0 : decide (0 ≤ x7_1) = true := decide_eq_true c10
   clear c10
   by_cases c11 : x7_1 < (x165000_1.length : Int)
   rotate_left
   ·rw [if_neg c11] at H
    exact absurd H (by simp)
   rw [if_pos c11] at H
   have c11b0 : decide (x7_1 < (x165000_1.length : Int)) = true := decide_eq_true c11
   clear c11
   by_cases c12 : (rd x165000_1 x7_1) = 0
   ·rw [if_pos c12] at H
    have c12b0 : ((rd x165000_1 x7_1) == 0) = true := beq_iff_eq.mpr c12
    have c12b1 : ((rd x165000_1 x7_1) != 0) = false := bne_eq_false_iff_eq.mpr c12
    clear c12
    have H' := Aside0.mk H
    clear H
    obtain ⟨hnb13, hnc13⟩ := nn_ NB164_165
    obtain ⟨hcz14_0, hcz14_1, hcz14_2⟩ := bcs3_ BK164
    obtain ⟨hfz14_0, hfz14_1, hfz14_2⟩ := bz3_ BK164
    obtain ⟨Ao15, co15, eo15⟩ := Kd.R_slice HO_165000.out
    subst eo15
    have p166 : 0 ≤ (x7_1 : Int) := od_
    have q166 : x7_1 < (x165000_1.length : Int) := od_
    obtain ⟨ad166, e166, hx166_0⟩ := Kd.at_int (Kd.R_reads' HO_165000.out).2.2 x7_1 p166 q166
    cases e166
    replace p166 := eq_true p166
    replace q166 := eq_true q166
    go_wp2
    go_roundg k1
    case measure => have := HK1.out; omega
    case rel => exact ⟨(wrap64 (x7_1 + 1)), (x165000_1), (x165001_1), (.slice (some ad166) x165000_1.length co15), (u165001), (by first | rfl | (simp; done) | (simp [*]; done)), H', ⟨by have := HK1.out; omega⟩, ⟨ra HO_165000.out⟩, ⟨ra HO_165001.out⟩, ⟨ra HO_165002.out⟩, ⟨bw0_ BK164⟩, ⟨bw0_ BK165⟩, ⟨hk2_ HK GW164 GW165⟩, ⟨hB HB⟩⟩
   rw [if_neg c12] at H
   have c12b0 : ((rd x165000_1 x7_1) == 0) = false := beq_eq_false_iff_ne.mpr c12
   have c12b1 : ((rd x165000_1 x7_1) != 0) = true := bne_iff_ne.mpr c12
   by_cases c16 : x7_1 < (x165001_1.length : Int)
   rotate_left
   ·rw [if_neg c16] at H
    exact absurd H (by simp)
   rw [if_pos c16] at H
   have c16b0 : decide (x7_1 < (x165001_1.length : Int)) = true := decide_eq_true c16
   clear c16
   obtain ⟨y168, hy168⟩ : ∃ y_ : List Int, y_ = (x165001_1.set (x7_1 : Int).toNat (wrap64 ((rd x165001_1 x7_1) - 1))) := ⟨_, rfl⟩
   replace H : (if (rd y168 x7_1) = 0 then (spec_l3Tick.l0 k1 (l0_0.length : Int) (wrap64 (x7_1 + 1)) (x165000_1.set (x7_1 : Int).toNat 0) y168 l0_2) else (spec_l3Tick.l0 k1 (l0_0.length : Int) (wrap64 (x7_1 + 1)) x165000_1 y168 l0_2)) = some (r1, r2, r3) := by first | (rw [hy168]; with_reducible exact H) | (have H2_ := (Option.bind_some _ _).symm.trans H; rw [hy168]; with_reducible exact H2_) | (have H2_ := (Option.bind_some _ _).symm.trans H; with_reducible exact H2_) | with_reducible exact H | (rw [hy168]; exact H) | exact H
   have Ny168 := Aside0.mk hy168
   clear hy168
   by_cases c18 : (rd y168 x7_1) = 0
   rotate_left
   ·rw [if_neg c18] at H
    have c18b0 : ((rd y168 x7_1) == 0) = false := beq_eq_false_iff_ne.mpr c18
    have c18b1 : ((rd y168 x7_1) != 0) = true := bne_iff_ne.mpr c18
    have H' := Aside0.mk H
    clear H
    obtain ⟨hnb29, hnc29⟩ := nn_ NB164_165
    obtain ⟨hcz30_0, hcz30_1, hcz30_2⟩ := bcs3_ BK164
    obtain ⟨hfz30_0, hfz30_1, hfz30_2⟩ := bz3_ BK164
    obtain ⟨Ao31, co31, eo31⟩ := Kd.R_slice HO_165000.out
    subst eo31
    have p166 : 0 ≤ (x7_1 : Int) := od_
    have q166 : x7_1 < (x165000_1.length : Int) := od_
    obtain ⟨ad166, e166, hx166_0⟩ := Kd.at_int (Kd.R_reads' HO_165000.out).2.2 x7_1 p166 q166
    cases e166
    replace p166 := eq_true p166
    replace q166 := eq_true q166
    obtain ⟨Ao32, co32, eo32⟩ := Kd.R_slice HO_165001.out
    subst eo32
    have p167 : 0 ≤ (x7_1 : Int) := od_
    have q167 : x7_1 < (x165001_1.length : Int) := od_
    obtain ⟨ad167, e167, hx167_0⟩ := Kd.at_int (Kd.R_reads' HO_165001.out).2.2 x7_1 p167 q167
    cases e167
    replace p167 := eq_true p167
    replace q167 := eq_true q167
    have p17 : 0 ≤ (x7_1 : Int) := od_
    have q17 : (x7_1 : Int) < ((x165001_1.length : Int) : Int) := od_
    obtain ⟨go17, co17, eo17, gb17, gl17, cl17, HG17⟩ := Kd.R_form HO_165001.out (by omega)
    (first | cases eo17 | (injection eo17 with ea_ en_ ec_; (first | subst ea_ | (injection ea_ with ea_; subst ea_)); subst ec_; clear en_))
    have GB17 := Aside0.mk gb17
    have GG17 := Aside0.mk HG17
    clear gb17 gl17 HG17
    have HMgo17 := Aside0.mk (show ((P0_0_ go17 ∨ P0_1_ go17 ∨ P0_2_ go17) ∨ w.heap.size ≤ go17) from (HO_165001.out.1 _ rfl).1)
    (first | simp only [add_plain] at hx167_0 | skip)
    obtain ⟨hx17_0, hf17_0⟩ := Kd.R_celln 0 HO_165001.out (x7_1 : Int) p17 q17
    replace p17 := eq_true p17
    replace q17 := eq_true q17
    have HP33 := Kd.R_putg HO_165001.out (x7_1 : Int) (wrap64 ((rd x165001_1 x7_1) - 1))
    go_wp2_with (first | ((with_reducible refine gate_store (t := 3) (p := 22) rfl ?_); refine store_event (t := 3) (p := 22) (v := ?vo_w34) (w1 := (wr.setCell ⟨go17, (x7_1 : Int).toNat, none⟩ (.int .i64 (wrap64 ((rd x165001_1 x7_1) - 1))))) ?hg ?ho ?hn ?hr ?_; (case ho => rfl); (case hg => rfl); (case hn => rfl); (case hr => first | (go_simp; done) | (go_simp; rfl)); intro w34 hw; have hg : wr.grownBy w34 (some go17) := (by rw [hw]; exact HP33.2); have hp_ : Kd.R (Kd.int .i64) 3 w34 w0.heap.size (fun k_ => ((P0_0_ k_ ∨ P0_1_ k_ ∨ P0_2_ k_) ∨ w.heap.size ≤ k_) ∧ some k_ ≠ (.slice (some ad166) x165000_1.length co31 : Value).ownBlock) (.slice (some ⟨go17, 0, none⟩) x165001_1.length co32) y168 := (by rw [hw, Ny168.out]; exact HP33.1); clear HP33; replace HO_165000 := Aside0.mk (Kd.R_after (v := (.slice (some ⟨go17, 0, none⟩) x165001_1.length co32)) (v1 := (.slice (some ⟨go17, 0, none⟩) x165001_1.length co32)) (ok := (fun k_ => ((P0_0_ k_ ∨ P0_1_ k_ ∨ P0_2_ k_) ∨ w.heap.size ≤ k_))) (ra HO_165000.out) hg (.inl rfl)); replace HO_165002 := Aside0.mk (Kd.R_over' (v := (.slice (some ⟨go17, 0, none⟩) x165001_1.length co32)) (ra HO_165002.out) (Kd.R_typed HO_165001.out) (by decide) hg); replace BK164 := Aside0.mk (blk_grown (g := gb164) (o := .cells #[.slice (some ad166) x165000_1.length co31, .slice (some ⟨go17, 0, none⟩) x165001_1.length co32, .slice Ao4 l0_2.length co4] 26 (0, 0)) (ba BK164.out) hg (Kd.R_ne HO_165001.out BK164.out (by decide))); replace BK165 := Aside0.mk (blk_grown (g := gb165) (o := .cells #[.slice none 0 0, .slice none 0 0, .slice none 0 0] 26 (0, 0)) (ba BK165.out) hg (Kd.R_ne HO_165001.out BK165.out (by decide))); replace HB := Aside0.mk ((by rw [hw]; exact below_set (HB.out) GB17.out : Below w0.heap.size w0 w34)); replace HK := Aside0.mk (Kept.of_grown (S := (fun k_ => P0_0_ k_ ∨ P0_1_ k_ ∨ P0_2_ k_)) hg (hk2_ HK GW164 GW165) (fun k_ e_ => (HO_165001.out.1 k_ e_).1)); replace HO_165001 := Aside0.mk (hp_); clear hg hw hp_; obtain ⟨hcz35_0, hcz35_1, hcz35_2⟩ := bcs3_ BK164; have p169 : 0 ≤ (x7_1 : Int) := od_; have q169 : x7_1 < (y168.length : Int) := (by have h_ : (x7_1 : Int) < ((x165001_1.length : Int) : Int) := od_; first | (have e_ := (Kd.R_reads' HO_165001.out).1; omega) | simpa only [Ny168.out, List.length_set] using h_); have ql169 : ((x7_1 : Int) < ((x165001_1.length : Int) : Int)) = True := eq_true (od_); obtain ⟨ad169, e169, hx169_0⟩ := Kd.at_int (Kd.R_reads' HO_165001.out).2.2 x7_1 p169 q169; obtain rfl : (⟨go17, 0, none⟩ : Addr) = ad169 := (by injection e169); (first | simp only [add_plain] at hx169_0 | simp only [add_at] at hx169_0 | simp only [Addr.add, Nat.zero_add] at hx169_0 | skip); replace p169 := eq_true p169; replace q169 := eq_true q169))
    go_roundg k1
    case measure => have := HK1.out; omega
    case rel => exact ⟨(wrap64 (x7_1 + 1)), (x165000_1), (y168), (.slice (some ad166) x165000_1.length co31), (.slice (some ⟨go17, 0, none⟩) x165001_1.length co32), (by first | rfl | (simp; done) | (simp [*]; done)), H', ⟨by have := HK1.out; omega⟩, ⟨ra HO_165000.out⟩, ⟨ra HO_165001.out⟩, ⟨ra HO_165002.out⟩, ⟨bw0_ BK164⟩, ⟨bw0_ BK165⟩, ⟨hk2_ HK GW164 GW165⟩, ⟨hB HB⟩⟩
   rw [if_pos c18] at H
   have c18b0 : ((rd y168 x7_1) == 0) = true := beq_iff_eq.mpr c18
   have c18b1 : ((rd y168 x7_1) != 0) = false := bne_eq_false_iff_eq.mpr c18
   clear c18
   obtain ⟨y170, hy170⟩ : ∃ y_ : List Int, y_ = (x165000_1.set (x7_1 : Int).toNat 0) := ⟨_, rfl⟩
   replace H : (spec_l3Tick.l0 k1 (l0_0.length : Int) (wrap64 (x7_1 + 1)) y170 y168 l0_2) = some (r1, r2, r3) := by first | (rw [hy170]; with_reducible exact H) | (have H2_ := (Option.bind_some _ _).symm.trans H; rw [hy170]; with_reducible exact H2_) | (have H2_ := (Option.bind_some _ _).symm.trans H; with_reducible exact H2_) | with_reducible exact H | (rw [hy170]; exact H) | exact H
   have Ny170 := Aside0.mk hy170
   clear hy170
   have H' := Aside0.mk H
   clear H
   obtain ⟨hnb20, hnc20⟩ := nn_ NB164_165
   obtain ⟨hcz21_0, hcz21_1, hcz21_2⟩ := bcs3_ BK164
   obtain ⟨hfz21_0, hfz21_1, hfz21_2⟩ := bz3_ BK164
   obtain ⟨Ao22, co22, eo22⟩ := Kd.R_slice HO_165000.out
   subst eo22
   have p166 : 0 ≤ (x7_1 : Int) := od_
   have q166 : x7_1 < (x165000_1.length : Int) := od_
   obtain ⟨ad166, e166, hx166_0⟩ := Kd.at_int (Kd.R_reads' HO_165000.out).2.2 x7_1 p166 q166
   cases e166
   replace p166 := eq_true p166
   replace q166 := eq_true q166
   obtain ⟨Ao23, co23, eo23⟩ := Kd.R_slice HO_165001.out
   subst eo23
   have p167 : 0 ≤ (x7_1 : Int) := od_
   have q167 : x7_1 < (x165001_1.length : Int) := od_
   obtain ⟨ad167, e167, hx167_0⟩ := Kd.at_int (Kd.R_reads' HO_165001.out).2.2 x7_1 p167 q167
   cases e167
   replace p167 := eq_true p167
   replace q167 := eq_true q167
   have p17 : 0 ≤ (x7_1 : Int) := od_
   have q17 : (x7_1 : Int) < ((x165001_1.length : Int) : Int) := od_
   obtain ⟨go17, co17, eo17, gb17, gl17, cl17, HG17⟩ := Kd.R_form HO_165001.out (by omega)
   (first | cases eo17 | (injection eo17 with ea_ en_ ec_; (first | subst ea_ | (injection ea_ with ea_; subst ea_)); subst ec_; clear en_))
   have GB17 := Aside0.mk gb17
   have GG17 := Aside0.mk HG17
   clear gb17 gl17 HG17
   have HMgo17 := Aside0.mk (show ((P0_0_ go17 ∨ P0_1_ go17 ∨ P0_2_ go17) ∨ w.heap.size ≤ go17) from (HO_165001.out.1 _ rfl).1)
   (first | simp only [add_plain] at hx167_0 | skip)
   obtain ⟨hx17_0, hf17_0⟩ := Kd.R_celln 0 HO_165001.out (x7_1 : Int) p17 q17
   replace p17 := eq_true p17
   replace q17 := eq_true q17
   have HP24 := Kd.R_putg HO_165001.out (x7_1 : Int) (wrap64 ((rd x165001_1 x7_1) - 1))
   go_wp2_with (first | ((with_reducible refine gate_store (t := 3) (p := 22) rfl ?_); refine store_event (t := 3) (p := 22) (v := ?vo_w25) (w1 := (wr.setCell ⟨go17, (x7_1 : Int).toNat, none⟩ (.int .i64 (wrap64 ((rd x165001_1 x7_1) - 1))))) ?hg ?ho ?hn ?hr ?_; (case ho => rfl); (case hg => rfl); (case hn => rfl); (case hr => first | (go_simp; done) | (go_simp; rfl)); intro w25 hw; have hg : wr.grownBy w25 (some go17) := (by rw [hw]; exact HP24.2); have hp_ : Kd.R (Kd.int .i64) 3 w25 w0.heap.size (fun k_ => ((P0_0_ k_ ∨ P0_1_ k_ ∨ P0_2_ k_) ∨ w.heap.size ≤ k_) ∧ some k_ ≠ (.slice (some ad166) x165000_1.length co22 : Value).ownBlock) (.slice (some ⟨go17, 0, none⟩) x165001_1.length co23) y168 := (by rw [hw, Ny168.out]; exact HP24.1); clear HP24; replace HO_165000 := Aside0.mk (Kd.R_after (v := (.slice (some ⟨go17, 0, none⟩) x165001_1.length co23)) (v1 := (.slice (some ⟨go17, 0, none⟩) x165001_1.length co23)) (ok := (fun k_ => ((P0_0_ k_ ∨ P0_1_ k_ ∨ P0_2_ k_) ∨ w.heap.size ≤ k_))) (ra HO_165000.out) hg (.inl rfl)); replace HO_165002 := Aside0.mk (Kd.R_over' (v := (.slice (some ⟨go17, 0, none⟩) x165001_1.length co23)) (ra HO_165002.out) (Kd.R_typed HO_165001.out) (by decide) hg); replace BK164 := Aside0.mk (blk_grown (g := gb164) (o := .cells #[.slice (some ad166) x165000_1.length co22, .slice (some ⟨go17, 0, none⟩) x165001_1.length co23, .slice Ao4 l0_2.length co4] 26 (0, 0)) (ba BK164.out) hg (Kd.R_ne HO_165001.out BK164.out (by decide))); replace BK165 := Aside0.mk (blk_grown (g := gb165) (o := .cells #[.slice none 0 0, .slice none 0 0, .slice none 0 0] 26 (0, 0)) (ba BK165.out) hg (Kd.R_ne HO_165001.out BK165.out (by decide))); replace HB := Aside0.mk ((by rw [hw]; exact below_set (HB.out) GB17.out : Below w0.heap.size w0 w25)); replace HK := Aside0.mk (Kept.of_grown (S := (fun k_ => P0_0_ k_ ∨ P0_1_ k_ ∨ P0_2_ k_)) hg (hk2_ HK GW164 GW165) (fun k_ e_ => (HO_165001.out.1 k_ e_).1)); replace HO_165001 := Aside0.mk (hp_); clear hg hw hp_; obtain ⟨hcz26_0, hcz26_1, hcz26_2⟩ := bcs3_ BK164; have p169 : 0 ≤ (x7_1 : Int) := od_; have q169 : x7_1 < (y168.length : Int) := (by have h_ : (x7_1 : Int) < ((x165001_1.length : Int) : Int) := od_; first | (have e_ := (Kd.R_reads' HO_165001.out).1; omega) | simpa only [Ny168.out, List.length_set] using h_); have ql169 : ((x7_1 : Int) < ((x165001_1.length : Int) : Int)) = True := eq_true (od_); obtain ⟨ad169, e169, hx169_0⟩ := Kd.at_int (Kd.R_reads' HO_165001.out).2.2 x7_1 p169 q169; obtain rfl : (⟨go17, 0, none⟩ : Addr) = ad169 := (by injection e169); (first | simp only [add_plain] at hx169_0 | simp only [add_at] at hx169_0 | simp only [Addr.add, Nat.zero_add] at hx169_0 | skip); replace p169 := eq_true p169; replace q169 := eq_true q169; have p19 : 0 ≤ (x7_1 : Int) := od_; have q19 : (x7_1 : Int) < ((x165000_1.length : Int) : Int) := od_; obtain ⟨go19, co19, eo19, gb19, gl19, cl19, HG19⟩ := Kd.R_form HO_165000.out (by omega); (first | cases eo19 | (injection eo19 with ea_ en_ ec_; (first | subst ea_ | (injection ea_ with ea_; subst ea_)); subst ec_; clear en_)); have GB19 := Aside0.mk gb19; have GG19 := Aside0.mk HG19; clear gb19 gl19 HG19; have HMgo19 := Aside0.mk (show ((P0_0_ go19 ∨ P0_1_ go19 ∨ P0_2_ go19) ∨ w.heap.size ≤ go19) from (HO_165000.out.1 _ rfl).1); (first | simp only [add_plain] at hx166_0 | skip); obtain ⟨hx19_0, hf19_0⟩ := Kd.R_celln 0 HO_165000.out (x7_1 : Int) p19 q19; replace p19 := eq_true p19; replace q19 := eq_true q19; obtain ⟨hy27_, hz27_⟩ := Kd.R_celln 0 HO_165000.out (x7_1 : Int) (od_) (od_); have HP27 := Kd.R_putg HO_165000.out (x7_1 : Int) 0) | ((with_reducible refine gate_store (t := 3) (p := 32) rfl ?_); refine store_event (t := 3) (p := 32) (v := ?vo_w28) (w1 := (w25.setCell ⟨go19, (x7_1 : Int).toNat, none⟩ (.int .i64 0))) ?hg ?ho ?hn ?hr ?_; (case ho => rfl); (case hg => rfl); (case hn => rfl); (case hr => first | (go_simp; done) | (go_simp; rfl)); intro w28 hw; have hg : w25.grownBy w28 (some go19) := (by rw [hw]; exact HP27.2); have hp_ : Kd.R (Kd.int .i64) 3 w28 w0.heap.size (fun k_ => ((P0_0_ k_ ∨ P0_1_ k_ ∨ P0_2_ k_) ∨ w.heap.size ≤ k_) ∧ some k_ ≠ (.slice (some ⟨go17, 0, none⟩) x165001_1.length co23 : Value).ownBlock) (.slice (some ⟨go19, 0, none⟩) x165000_1.length co22) y170 := (by rw [hw, Ny170.out]; exact HP27.1); clear HP27; replace HO_165001 := Aside0.mk (Kd.R_after (v := (.slice (some ⟨go19, 0, none⟩) x165000_1.length co22)) (v1 := (.slice (some ⟨go19, 0, none⟩) x165000_1.length co22)) (ok := (fun k_ => ((P0_0_ k_ ∨ P0_1_ k_ ∨ P0_2_ k_) ∨ w.heap.size ≤ k_))) (ra HO_165001.out) hg (.inl rfl)); replace HO_165002 := Aside0.mk (Kd.R_over' (v := (.slice (some ⟨go19, 0, none⟩) x165000_1.length co22)) (ra HO_165002.out) (Kd.R_typed HO_165000.out) (by decide) hg); replace BK164 := Aside0.mk (blk_grown (g := gb164) (o := .cells #[.slice (some ⟨go19, 0, none⟩) x165000_1.length co22, .slice (some ⟨go17, 0, none⟩) x165001_1.length co23, .slice Ao4 l0_2.length co4] 26 (0, 0)) (ba BK164.out) hg (Kd.R_ne HO_165000.out BK164.out (by decide))); replace BK165 := Aside0.mk (blk_grown (g := gb165) (o := .cells #[.slice none 0 0, .slice none 0 0, .slice none 0 0] 26 (0, 0)) (ba BK165.out) hg (Kd.R_ne HO_165000.out BK165.out (by decide))); replace HB := Aside0.mk ((by rw [hw]; exact below_set (HB.out) GB19.out : Below w0.heap.size w0 w28)); replace HK := Aside0.mk (Kept.of_grown (S := (fun k_ => P0_0_ k_ ∨ P0_1_ k_ ∨ P0_2_ k_)) hg (hk2_ HK GW164 GW165) (fun k_ e_ => (HO_165000.out.1 k_ e_).1)); replace HO_165000 := Aside0.mk (hp_); clear hg hw hp_))
   go_roundg k1
   case measure => have := HK1.out; omega
   case rel => exact ⟨(wrap64 (x7_1 + 1)), (y170), (y168), (.slice (some ⟨go19, 0, none⟩) x165000_1.length co22), (.slice (some ⟨go17, 0, none⟩) x165001_1.length co23), (by first | rfl | (simp; done) | (simp [*]; done)), H', ⟨by have := HK1.out; omega⟩, ⟨ra HO_165000.out⟩, ⟨ra HO_165001.out⟩, ⟨ra HO_165002.out⟩, ⟨bw0_ BK164⟩, ⟨bw0_ BK165⟩, ⟨hk2_ HK GW164 GW165⟩, ⟨hB HB⟩⟩

def spec_NextState.f (a0 : Int) (a1 : Bool) : Option (Int × Bool) := (spec_l1In.f a0 0 2).bind fun t171 => (if t171 = true then (if a1 = true then (some (2, true)) else (some (1, true))) else (some (0, false)))
set_option maxHeartbeats 8000000 in
set_option maxRecDepth 100000 in
theorem spec_NextState.calls (a0 : Int) (a1 : Bool) (r1 : Int) (r2 : Bool) (w : World) (h : spec_NextState.f a0 a1 = some (r1, r2)) :
  Calls Try.prog 39 #[.int .i64 a0, .bool a1] w fun e w' => e = .returned (.tuple #[.int .i64 r1, .bool r2]) ∧ Drawn0 w w' := by
 have H : ((spec_l1In.f a0 0 2).bind fun t171 => (if t171 = true then (if a1 = true then (some (2, true)) else (some (1, true))) else (some (0, false)))) = some (r1, r2) := h
 clear h
 replace H := Option.bind_eq_some_iff.mp H
 obtain ⟨t171, A30, H⟩ := H
 replace H : (if t171 = true then (if a1 = true then (some (2, true)) else (some (1, true))) else (some (0, false))) = some (r1, r2) := H
 have A3 := Aside0.mk A30
 clear A30
 by_cases c4 : t171 = true
 rotate_left
 ·replace c4 := Bool.eq_false_iff.mpr c4
  subst c4
  rw [if_neg (show ¬ (false = true) by decide)] at H
  simp only [Option.some.injEq, Prod.mk.injEq] at H
  obtain ⟨rfl, rfl⟩ := H
  go_enter Try.func39, Try.ntmps39
  go_wp2_with (first | ((with_reducible refine gate_dst (N := 7) rfl ?_); refine goesL_ (some 7) rfl rfl Try.func28 (by kernel_rfl) rfl #[.int .i64 a0, .int .i64 0, .int .i64 2] rfl tm_ ?_; (with_reducible refine (spec_l1In.calls a0 0 2 false _ A3.out).mono ?_); rintro e w' ⟨rfl, ⟨nd, rfl⟩⟩; refine ⟨_, rfl, ?_⟩))
  go_ret2
  exact ⟨by first | rfl | (simp; done) | (simp [*]; done), by repeat (first | exact Drawn0.refl _ | apply Drawn0.step)⟩
 subst c4
 rw [if_pos rfl] at H
 by_cases c5 : a1 = true
 ·subst c5
  rw [if_pos rfl] at H
  simp only [Option.some.injEq, Prod.mk.injEq] at H
  obtain ⟨rfl, rfl⟩ := H
  go_enter Try.func39, Try.ntmps39
  go_wp2_with (first | ((with_reducible refine gate_dst (N := 7) rfl ?_); refine goesL_ (some 7) rfl rfl Try.func28 (by kernel_rfl) rfl #[.int .i64 a0, .int .i64 0, .int .i64 2] rfl tm_ ?_; (with_reducible refine (spec_l1In.calls a0 0 2 true _ A3.out).mono ?_); rintro e w' ⟨rfl, ⟨nd, rfl⟩⟩; refine ⟨_, rfl, ?_⟩))
  go_ret2
  exact ⟨by first | rfl | (simp; done) | (simp [*]; done), by repeat (first | exact Drawn0.refl _ | apply Drawn0.step)⟩
 replace c5 := Bool.eq_false_iff.mpr c5
 subst c5
 rw [if_neg (show ¬ (false = true) by decide)] at H
 simp only [Option.some.injEq, Prod.mk.injEq] at H
 obtain ⟨rfl, rfl⟩ := H
 go_enter Try.func39, Try.ntmps39
 go_wp2_with (first | ((with_reducible refine gate_dst (N := 7) rfl ?_); refine goesL_ (some 7) rfl rfl Try.func28 (by kernel_rfl) rfl #[.int .i64 a0, .int .i64 0, .int .i64 2] rfl tm_ ?_; (with_reducible refine (spec_l1In.calls a0 0 2 true _ A3.out).mono ?_); rintro e w' ⟨rfl, ⟨nd, rfl⟩⟩; refine ⟨_, rfl, ?_⟩))
 go_ret2
 exact ⟨by first | rfl | (simp; done) | (simp [*]; done), by repeat (first | exact Drawn0.refl _ | apply Drawn0.step)⟩

end Go.Proofs.Ytefdgdloghhnaaa.P
