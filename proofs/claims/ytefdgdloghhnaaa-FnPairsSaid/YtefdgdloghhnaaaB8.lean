/- What functions of the program answer, as plain functions: used by the laws of this claim. -/
import Derived.Test.YtefdgdloghhnaaaB0
import Derived.Test.YtefdgdloghhnaaaF8
import Derived.Test.YtefdgdloghhnaaaB7
import Derived.Test.YtefdgdloghhnaaaQFlow
import Derived.Test.YtefdgdloghhnaaaQTree
namespace Go.Proofs.Ytefdgdloghhnaaa.Pure
open Go.RowKit Go.Proofs.Ytefdgdloghhnaaa.P Go.Proofs.YtefdgdloghhnaaaW.PrintWords Go.Proofs.Ytefdgdloghhnaaa.Q
set_option linter.unusedVariables false
set_option linter.unusedSimpArgs false

theorem impl_StepPair_tick (a b c d : Int) (ln : List S36) (hc : inB 0 3 c = true) (hd : inB 0 3 d = true) : Ev (fun k => impl_StepPair.l0 k 2 0 [a, b] [c, d] ln) ([(tick1 a c).1, (tick1 b d).1], [(tick1 a c).2, (tick1 b d).2], ln, true) := by
  have l2 : ∀ x y : Int, (([x, y] : List Int).length : Int) = 2 := fun _ _ => rfl
  rw [inB_iff] at hc hd
  have wc : wrap64 (c - 1) = c - 1 := w64 (by omega) (by omega)
  have wd : wrap64 (d - 1) = d - 1 := w64 (by omega) (by omega)
  have h2 : ∀ st lf : List Int, Ev (fun k => impl_StepPair.l0 k 2 2 st lf ln) (st, lf, ln, true) := by
    intro st lf
    refine ev_succ.1 ?_
    simp only [impl_StepPair.l0, Int.lt_irrefl, if_false, ev_some]
  have h1 : ∀ p q : Int, Ev (fun k => impl_StepPair.l0 k 2 1 [p, b] [q, d] ln) ([p, (tick1 b d).1], [q, (tick1 b d).2], ln, true) := by
    intro p q
    refine ev_succ.1 ?_
    simp only [impl_StepPair.l0, l2, show ((1 : Int) < 2) = True from eq_true (by decide), show ((0 : Int) < 2) = True from eq_true (by decide), show ((0 : Int) ≤ 1) = True from eq_true (by decide), show ((0 : Int) ≤ 0) = True from eq_true (by decide), show wrap64 (1 + 1) = 2 from (by unfold wrap64; omega), show wrap64 (0 + 1) = 1 from (by unfold wrap64; omega), show rd [p, b] 1 = b from rfl, show rd [q, d] 1 = d from rfl, if_true, Option.bind_some, wd, ev_ite, show ([q, d].set ((1 : Int)).toNat (d - 1)) = [q, d - 1] from rfl, show rd [q, d - 1] 1 = d - 1 from rfl, show ([p, b].set ((1 : Int)).toNat 0) = [p, 0] from rfl, tick1]
    split
    · rename_i g; exact h2 _ _
    · split
      · exact h2 _ _
      · exact h2 _ _
  refine ev_succ.1 ?_
  simp only [impl_StepPair.l0, l2, show ((1 : Int) < 2) = True from eq_true (by decide), show ((0 : Int) < 2) = True from eq_true (by decide), show ((0 : Int) ≤ 1) = True from eq_true (by decide), show ((0 : Int) ≤ 0) = True from eq_true (by decide), show wrap64 (1 + 1) = 2 from (by unfold wrap64; omega), show wrap64 (0 + 1) = 1 from (by unfold wrap64; omega), show rd [a, b] 0 = a from rfl, show rd [c, d] 0 = c from rfl, if_true, Option.bind_some, wc, ev_ite, show ([c, d].set ((0 : Int)).toNat (c - 1)) = [c - 1, d] from rfl, show rd [c - 1, d] 0 = c - 1 from rfl, show ([a, b].set ((0 : Int)).toNat 0) = [0, b] from rfl]
  have e : tick1 a c = if a = 0 then (a, c) else if c - 1 = 0 then (0, c - 1) else (a, c - 1) := rfl
  rw [e]
  split
  · exact h1 _ _
  · split
    · exact h1 _ _
    · exact h1 _ _
theorem impl_StepPair_good (a b c d : Int) (ln : List S36) (kind k : Int) (g : goodP [a, b] [c, d] ln = true) : Ev (fun n => impl_StepPair.f n [a, b] [c, d] ln kind k) (stepP a b c d ln kind k) := by
  have l2 : ∀ x y : Int, (([x, y] : List Int).length : Int) = 2 := fun _ _ => rfl
  have gl := goodP_ln g
  have gg := g
  simp only [goodP, Bool.and_eq_true] at gg
  obtain ⟨_, ⟨⟨ga, gc⟩, _⟩, ⟨⟨gb, gd⟩, _⟩, gall⟩ := gg
  have gh : ∀ k : Int, 0 ≤ k → k < (ln.length : Int) → ((rd_T36 ln k).f0 = 0 ∨ (rd_T36 ln k).f0 = 1) := by
    intro k h0 h1
    have hm : rd_T36 ln k ∈ ln := by
      unfold rd_T36
      rw [List.getD_eq_getElem?_getD, List.getElem?_eq_getElem (by omega)]
      exact List.getElem_mem _
    have := List.all_eq_true.1 gall _ hm
    rw [inB_iff] at this
    omega
  unfold impl_StepPair.f
  simp only [ev_bind (impl_GoodPair_ev [a, b] [c, d] ln (by omega)), g, if_true, impl_Pair_own_eq _ _ _ (by simp : ([a, b] : List Int).length ≤ 2097152) (by simp : ([c, d] : List Int).length ≤ 2097152) (by omega : ln.length ≤ 2097152), Option.bind_some]
  by_cases k1 : kind = 1
  · subst k1
    simp only [if_true, impl_in_eq, Option.bind_some]
    cases hk : inB 0 1 k
    · simp only [Bool.false_eq_true, if_false, ev_some]
      simp [stepP, hk, nilP]
    · by_cases h12 : ln.length ≥ 12
      · simp only [if_true, show ((ln.length : Int) ≥ 12) = True from eq_true (by omega), ev_some]
        simp [stepP, hk, nilP, show ¬ ln.length < 12 by omega]
      · have hk2 := hk
        rw [inB_iff] at hk2
        simp only [if_true, show ((ln.length : Int) ≥ 12) = False from eq_false (by omega), if_false, l2, show (0 ≤ k) = True from eq_true (by omega), show (k < 2) = True from eq_true (by omega), show (ln.length < 8796093022208) = True from eq_true (by omega), ev_some]
        simp [stepP, hk, show ln.length < 12 by omega]
  · simp only [k1, if_false]
    by_cases k23 : kind = 2 ∨ kind = 3
    · have hj : ∀ v, Ev (fun n => impl_StepPair.j0 n kind true [a, b] [c, d] ln kind k [a, b] [c, d] ln) v → Ev (fun n => if kind = 2 then impl_StepPair.j0 n kind (kind == 2) [a, b] [c, d] ln kind k [a, b] [c, d] ln else impl_StepPair.j0 n kind (kind == 3) [a, b] [c, d] ln kind k [a, b] [c, d] ln) v := by
        intro v hv
        rcases k23 with rfl | rfl
        · exact hv
        · exact hv
      have e1 : stepP a b c d ln kind k = (if 0 ≤ k ∧ k < ln.length then (if kind = 2 then ([a, b].set (1 - (rd_T36 ln k).f0).toNat (if (rd_T36 ln k).f1 then 2 else 1), [c, d].set (1 - (rd_T36 ln k).f0).toNat 3, ln.take k.toNat ++ ln.drop (k + 1).toNat, true) else ([a, b], [c, d], ln.take k.toNat ++ ln.drop (k + 1).toNat, true)) else nilP) := by
        unfold stepP
        rw [if_neg k1, if_pos k23]
      refine hj _ (ev_succ.1 ?_)
      have hw0 : wrap64 ((ln.length : Int) - 1) = (ln.length : Int) - 1 := w64 (by omega) (by omega)
      simp only [impl_StepPair.j0, if_true, impl_in_eq, Option.bind_some, hw0]
      by_cases hk : 0 ≤ k ∧ k < ln.length
      · rw [if_pos hk] at e1
        have hin : inB 0 ((ln.length : Int) - 1) k = true := inB_iff.2 (by omega)
        have hw : wrap64 (k + 1) = k + 1 := w64 (by omega) (by omega)
        have h01 := gh k hk.1 hk.2
        have hw2 : wrap64 (1 - (rd_T36 ln k).f0) = 1 - (rd_T36 ln k).f0 := w64 (by omega) (by omega)
        simp only [hin, if_true, show (0 ≤ k) = True from eq_true hk.1, show (k < (ln.length : Int)) = True from eq_true hk.2, hw, impl_Hello_22_eq ln k hk.1 hk.2 (by omega), Option.bind_some, impl_nextState_eq, hw2, show (0 ≤ 1 - (rd_T36 ln k).f0) = True from eq_true (by omega), l2, show (1 - (rd_T36 ln k).f0 < 2) = True from eq_true (by omega), ev_ite, ev_some]
        rw [e1]
        split <;> rfl
      · rw [if_neg hk] at e1
        have hin : inB 0 ((ln.length : Int) - 1) k = false := by
          cases hi : inB 0 ((ln.length : Int) - 1) k
          · rfl
          · rw [inB_iff] at hi; exact absurd ⟨hi.1, by omega⟩ hk
        simp only [hin, Bool.false_eq_true, if_false, ev_some]
        exact e1.symm
    · have hk2 : ¬ kind = 2 := fun h => k23 (Or.inl h)
      have hk3 : ¬ kind = 3 := fun h => k23 (Or.inr h)
      simp only [hk2, if_false, show (kind == 3) = false from by simpa using hk3]
      refine ev_succ.1 ?_
      simp only [impl_StepPair.j0, Bool.false_eq_true, if_false]
      by_cases k4 : kind = 4
      · subst k4
        simp only [if_true]
        by_cases hk : k = 0
        · subst hk
          simp only [if_true, l2]
          have e : stepP a b c d ln 4 0 = ([(tick1 a c).1, (tick1 b d).1], [(tick1 a c).2, (tick1 b d).2], ln, true) := by simp [stepP]
          rw [e]
          exact impl_StepPair_tick a b c d ln gc gd
        · simp only [hk, if_false, ev_some]
          simp [stepP, hk, nilP]
      · simp only [k4, if_false, ev_some]
        simp [stepP, k1, k4, hk2, hk3, nilP]
theorem impl_StepPair_ev (st lf : List Int) (ln : List S36) (kind k : Int) (h2 : ln.length ≤ 1048576) : Ev (fun n => impl_StepPair.f n st lf ln kind k) (stepped st lf ln kind k) := by
  unfold stepped
  cases g : goodP st lf ln
  · unfold impl_StepPair.f
    simp only [ev_bind (impl_GoodPair_ev st lf ln (by omega)), g, Bool.false_eq_true, if_false, ev_some]; rfl
  · obtain ⟨a, b, c, d, rfl, rfl⟩ := goodP_two g
    exact impl_StepPair_good a b c d ln kind k g

end Go.Proofs.Ytefdgdloghhnaaa.Pure
