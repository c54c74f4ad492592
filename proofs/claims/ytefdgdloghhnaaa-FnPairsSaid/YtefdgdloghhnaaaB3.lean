/- What functions of the program answer, as plain functions: used by the laws of this claim. -/
import Derived.Test.YtefdgdloghhnaaaB0
import Derived.Test.YtefdgdloghhnaaaF3
import Derived.Test.YtefdgdloghhnaaaB1
import Derived.Test.YtefdgdloghhnaaaB2
import Derived.Test.YtefdgdloghhnaaaQFlow
import Derived.Test.YtefdgdloghhnaaaQTree
namespace Go.Proofs.Ytefdgdloghhnaaa.Pure
open Go.RowKit Go.Proofs.Ytefdgdloghhnaaa.P Go.Proofs.YtefdgdloghhnaaaW.PrintWords Go.Proofs.Ytefdgdloghhnaaa.Q
set_option linter.unusedVariables false
set_option linter.unusedSimpArgs false

theorem spec_l3Step_ev (a b c d : Int) (ln : List S36) (kind k : Int) (g : goodP [a, b] [c, d] ln = true) : ∃ v, Ev (fun n => spec_l3Step.f n [a, b] [c, d] ln kind k) v ∧ ((v.2.2.2 = true ∧ v = stepP a b c d ln kind k) ∨ (v.2.2.2 = false ∧ stepP a b c d ln kind k = nilP)) := by
  have l2 : ∀ x y : Int, (([x, y] : List Int).length : Int) = 2 := fun _ _ => rfl
  have gl := goodP_ln g
  have gg := g
  simp only [goodP, Bool.and_eq_true] at gg
  obtain ⟨_, ⟨⟨ga, gc⟩, _⟩, ⟨⟨gb, gd⟩, _⟩, gall⟩ := gg
  have gh : ∀ k : Int, 0 ≤ k → k < (ln.length : Int) → ((rd_T36 ln k).f0 = 0 ∨ (rd_T36 ln k).f0 = 1) := by
    intro k h0 h1
    have hm : rd_T36 ln k ∈ ln := by
      unfold rd_T36
      rw [List.getD_eq_getElem?_getD, List.getElem?_eq_getElem (by omega)]
      exact List.getElem_mem _
    have := List.all_eq_true.1 gall _ hm
    rw [inB_iff] at this
    omega
  unfold spec_l3Step.f
  by_cases k1 : kind = 1
  · subst k1
    simp only [if_true, spec_l3Side_eq, Option.bind_some]
    cases hk : inB 0 1 k
    · refine ⟨([a, b], [c, d], ln, false), ?_, Or.inr ⟨rfl, by simp [stepP, hk]⟩⟩
      simp only [Bool.false_eq_true, if_false]
      refine ev_succ.1 ?_
      simp only [spec_l3Step.j0, if_true, ev_some]
    · by_cases h12 : ln.length = 12
      · refine ⟨([a, b], [c, d], ln, false), ?_, Or.inr ⟨rfl, by simp [stepP, hk, h12]⟩⟩
        simp only [if_true]
        refine ev_succ.1 ?_
        have : ((ln.length : Int) == 12) = true := by simp; omega
        simp only [spec_l3Step.j0, this, if_true, ev_some]
      · refine ⟨([a, b], [c, d], ln ++ [⟨k, (rd [a, b] k) != 0⟩], true), ?_, Or.inl ⟨rfl, by simp [stepP, hk, show ln.length < 12 by omega]⟩⟩
        simp only [if_true]
        refine ev_succ.1 ?_
        have : ((ln.length : Int) == 12) = false := by simp; omega
        rw [inB_iff] at hk
        simp only [spec_l3Step.j0, this, Bool.false_eq_true, if_false, l2, show (0 ≤ k) = True from eq_true (by omega), show (k < 2) = True from eq_true (by omega), show (ln.length < 8796093022208) = True from eq_true (by omega), if_true, ev_some]
  · simp only [k1, if_false]
    by_cases k4 : kind = 4
    · subst k4
      simp only [if_true]
      refine ⟨([(tick1 a c).1, (tick1 b d).1], [(tick1 a c).2, (tick1 b d).2], ln, (k == 0)), ?_, ?_⟩
      · simp only [spec_l3Tick.f, l2, ev_bind (spec_l3Tick_tick a b c d ln gc gd), ev_some]
      · by_cases hk : k = 0
        · subst hk; exact Or.inl ⟨rfl, by simp [stepP]⟩
        · exact Or.inr ⟨by simpa using hk, by simp [stepP, hk]⟩
    · simp only [k4, if_false]
      by_cases k23 : kind = 2 ∨ kind = 3
      · have hj : ∀ v, Ev (fun n => spec_l3Step.j1 n true [a, b] [c, d] ln kind k) v → Ev (fun n => if kind = 2 then spec_l3Step.j1 n (kind == 2) [a, b] [c, d] ln kind k else spec_l3Step.j1 n (kind == 3) [a, b] [c, d] ln kind k) v := by
          intro v hv
          rcases k23 with rfl | rfl
          · exact hv
          · exact hv
        have e1 : stepP a b c d ln kind k = (if 0 ≤ k ∧ k < ln.length then (if kind = 2 then ([a, b].set (1 - (rd_T36 ln k).f0).toNat (if (rd_T36 ln k).f1 then 2 else 1), [c, d].set (1 - (rd_T36 ln k).f0).toNat 3, ln.take k.toNat ++ ln.drop (k + 1).toNat, true) else ([a, b], [c, d], ln.take k.toNat ++ ln.drop (k + 1).toNat, true)) else nilP) := by
          unfold stepP
          rw [if_neg k1, if_pos k23]
        by_cases hk : 0 ≤ k ∧ k < ln.length
        · rw [if_pos hk] at e1
          refine ⟨stepP a b c d ln kind k, hj _ ?_, Or.inl ⟨by rw [e1]; split <;> rfl, rfl⟩⟩
          refine ev_succ.1 ?_
          simp only [spec_l3Step.j1, if_true, show (k < 0) = False from eq_false (by omega), if_false, show (decide (k ≥ (ln.length : Int))) = false from by simp; omega]
          refine ev_succ.1 ?_
          have hw : wrap64 (k + 1) = k + 1 := w64 (by omega) (by omega)
          have h01 := gh k hk.1 hk.2
          have hw2 : wrap64 (1 - (rd_T36 ln k).f0) = 1 - (rd_T36 ln k).f0 := w64 (by omega) (by omega)
          have hst : inB 0 2 (rd [a, b] (1 - (rd_T36 ln k).f0)) = true := by
            rcases h01 with h | h <;> rw [h]
            · exact gb
            · exact ga
          have ht : (ln.take k.toNat).length ≤ 12 := by rw [List.length_take]; omega
          have hdr : (ln.drop (k + 1).toNat).length ≤ 12 := by rw [List.length_drop]; omega
          simp only [spec_l3Step.j2, Bool.false_eq_true, if_false, show (0 ≤ k) = True from eq_true hk.1, show (k < (ln.length : Int)) = True from eq_true hk.2, show (k ≤ (ln.length : Int)) = True from eq_true (by omega), if_true, Option.bind_some, List.length_nil, Nat.zero_add, List.nil_append, show ((ln.take k.toNat).length < 8796093022208) = True from eq_true (by omega), hw, show (0 ≤ k + 1) = True from eq_true (by omega), show (k + 1 ≤ (ln.length : Int)) = True from eq_true (by omega), show ((ln.take k.toNat).length + (ln.drop (k + 1).toNat).length < 8796093022208) = True from eq_true (by omega), hw2, show (0 ≤ 1 - (rd_T36 ln k).f0) = True from eq_true (by omega), l2, show (1 - (rd_T36 ln k).f0 < 2) = True from eq_true (by omega), spec_NextState_eq _ _ hst, ev_ite, ev_some]
          rw [e1]
          split <;> rfl
        · rw [if_neg hk] at e1
          refine ⟨([a, b], [c, d], ln, false), hj _ ?_, Or.inr ⟨rfl, e1⟩⟩
          refine ev_succ.1 ?_
          simp only [spec_l3Step.j1, if_true, ev_ite]
          by_cases h0 : k < 0
          · rw [if_pos h0]
            refine ev_succ.1 ?_
            simp only [spec_l3Step.j2, if_true, ev_some]
          · rw [if_neg h0, show (decide (k ≥ (ln.length : Int))) = true from by simp; omega]
            refine ev_succ.1 ?_
            simp only [spec_l3Step.j2, if_true, ev_some]
      · have hk2 : ¬ kind = 2 := fun h => k23 (Or.inl h)
        have hk3 : ¬ kind = 3 := fun h => k23 (Or.inr h)
        refine ⟨([a, b], [c, d], ln, false), ?_, Or.inr ⟨rfl, by simp [stepP, k1, k4, hk2, hk3]⟩⟩
        simp only [hk2, if_false, show (kind == 3) = false from by simpa using hk3]
        refine ev_succ.1 ?_
        simp only [spec_l3Step.j1, Bool.false_eq_true, if_false, ev_some]

end Go.Proofs.Ytefdgdloghhnaaa.Pure
