/- The plain statement behind the law FnPairs: for all arguments it answers true. -/
import Derived.Test.YtefdgdloghhnaaaB0
import Derived.Test.YtefdgdloghhnaaaF14
import Derived.Test.YtefdgdloghhnaaaB1
import Derived.Test.YtefdgdloghhnaaaB6
import Derived.Test.YtefdgdloghhnaaaB7
import Derived.Test.YtefdgdloghhnaaaB8
import Derived.Test.YtefdgdloghhnaaaB9
import Derived.Test.YtefdgdloghhnaaaB10
import Derived.Test.YtefdgdloghhnaaaB11
import Derived.Test.YtefdgdloghhnaaaB12
import Derived.Test.YtefdgdloghhnaaaB13
import Derived.Test.YtefdgdloghhnaaaQFlow
import Derived.Test.YtefdgdloghhnaaaQTree
namespace Go.Proofs.Ytefdgdloghhnaaa.Pure
open Go.RowKit Go.Proofs.Ytefdgdloghhnaaa.P Go.Proofs.YtefdgdloghhnaaaW.PrintWords Go.Proofs.Ytefdgdloghhnaaa.Q
set_option linter.unusedVariables false
set_option linter.unusedSimpArgs false

theorem spec_DrawStepPair_ok (l : List Int) (hl : bytesL l) : ∃ st lf ln kind q, Ev (fun k => spec_DrawStepPair.f k l) (st, lf, ln, kind, q) ∧ st.length = 2 ∧ lf.length = 2 ∧ ln.length ≤ 12 := by
  obtain ⟨st, lf, ln, a, s, e1, k0, k1, k2, p0, p1⟩ := spec_l1Cur_pair_ok l hl 0 0 (by omega) (by omega)
  obtain ⟨r, a2, s2, e2, _, _, _⟩ := spec_l1Cur_pairSteps_ok l hl a s (by omega) (by omega)
  by_cases h : (r.length : Int) = 0
  · refine ⟨st, lf, ln, 4, 0, ?_, k0, k1, k2⟩
    unfold spec_DrawStepPair.f
    simp only [slices_xorshift_Next_eq, Option.bind_some, ev_bind e1, ev_bind e2, if_pos h, ev_some]
  · refine ⟨st, lf, ln, (rd_T28 r 0).f0, (rd_T28 r 0).f1, ?_, k0, k1, k2⟩
    unfold spec_DrawStepPair.f
    simp only [slices_xorshift_Next_eq, Option.bind_some, ev_bind e1, ev_bind e2, if_neg h, if_pos (show 0 < (r.length : Int) by omega), ev_some]
theorem FnPairs_round (m : List Int) (a b a' b' kind q : Int) (lf lf' : List Int) (ln ln' : List S36) (i j : Int) (hi : 0 ≤ i) (hi2 : i < 2) (hw : wrap64 (i + 1) = j) (h1 : rd [a', b'] i ≠ rd [a, b] i → kind = 2 ∨ kind = 4) (h2 : rd [a', b'] i = 2 → rd [a, b] i = 2 ∨ (kind = 2 ∧ 0 ≤ q ∧ q < (ln.length : Int) ∧ (rd_T36 ln q).f1 = true ∧ (rd_T36 ln q).f0 ≠ i)) (hn : Ev (fun n => laws_FnPairs.l0 n m 2 j [a, b] lf ln kind q [a', b'] lf' ln') true) : Ev (fun n => laws_FnPairs.l0 n m 2 i [a, b] lf ln kind q [a', b'] lf' ln') true := by
  have l2 : ∀ x y : Int, (([x, y] : List Int).length : Int) = 2 := fun _ _ => rfl
  have hj : Ev (fun n => laws_FnPairs.j2 n m i 2 i false [a, b] lf ln kind q [a', b'] lf' ln') true := by
    refine ev_succ.1 ?_
    simp only [laws_FnPairs.j2, Bool.false_eq_true, if_false, l2, show (0 ≤ i) = True from eq_true hi, show (i < 2) = True from eq_true hi2, if_true, hw, ev_ite]
    by_cases g : rd [a', b'] i = 2
    · rw [if_pos g]
      by_cases g2 : rd [a, b] i = 2
      · rw [if_pos g2]; exact hn
      · rw [if_neg g2]
        obtain ⟨q1, q2, q3, q4, q5⟩ := (h2 g).resolve_left g2
        rw [if_pos q1, if_pos q2, if_pos q3, if_pos q4, if_neg q5]
        exact hn
    · rw [if_neg g]; exact hn
  refine ev_succ.1 ?_
  simp only [laws_FnPairs.l0, l2, show (0 ≤ i) = True from eq_true hi, show (i < 2) = True from eq_true hi2, if_true, ev_ite]
  by_cases g : rd [a', b'] i = rd [a, b] i
  · rw [if_pos g]; exact hj
  · rw [if_neg g]
    rcases h1 g with e | e
    · rw [if_pos e]; exact hj
    · rw [if_neg (by omega), show (kind != 4) = false from by simp [e]]; exact hj
theorem FnPairs_last (m : List Int) (hm : bytesL m) : Ev (fun k => laws_FnPairs.j3 k m) true := by
  obtain ⟨st, lf, ln, e1, k0, k1, k2⟩ := spec_DrawSettlePair_ok m hm
  obtain ⟨v, ev⟩ := spec_DrawNewPair_ok m hm
  have hl := settledV_len st lf ln
  have hn := newP_len v
  refine ev_succ.1 ?_
  simp only [laws_FnPairs.j3, ev_bind e1, ev_bind (impl_SettlePair_ev st lf ln (by omega) (by omega) (by omega)), ev_bind (spec_SettlePair_ev st lf ln (by omega) (by omega) (by omega)), ev_bind (impl_AreBoth_ev st lf ln (by omega)), ev_bind (spec_AreBoth_ev st lf ln (by omega)), ev, impl_NewPair_all, spec_NewPair_all, Option.bind_some, beq_self_eq_true, if_true, ev_bind (laws_samePair_ev (settledV st lf ln).1 (settledV st lf ln).2.1 (settledV st lf ln).2.2.1 (by omega) (by omega) (by omega)), ev_bind (laws_samePair_ev (newP v).1 (newP v).2.1 (newP v).2.2.1 (by omega) (by omega) (by omega)), ev_some]
theorem FnPairs (l m : List Int) (hG : l.length ≤ maxLen ∧ ∀ y ∈ l, (Lit.int .u8 y).wf = true) (hM : m.length ≤ maxLen ∧ ∀ y ∈ m, (Lit.int .u8 y).wf = true) : ∃ k, laws_FnPairs.f k l m = some true := by
  refine Ev.rounds ?_
  have hl := bytesL_wf hG.2
  have hm := bytesL_wf hM.2
  unfold laws_FnPairs.f
  by_cases hbig : wrap64 ((l.length : Int) + (m.length : Int)) > 1048576
  · simp only [hbig, if_true]; exact Ev.now _
  obtain ⟨st, lf, ln, kind, q, hr, k0, k1, k2⟩ := spec_DrawStepPair_ok l hl
  have hlen := stepped_len st lf ln kind q
  simp only [hbig, if_false, ev_bind hr, ev_bind (impl_StepPair_ev st lf ln kind q (by omega)), ev_bind (spec_StepPair_ev st lf ln kind q (by omega) (by omega) (by omega)), bne_self_eq_false, Bool.false_eq_true, ev_bind (laws_samePair_ev (stepped st lf ln kind q).1 (stepped st lf ln kind q).2.1 (stepped st lf ln kind q).2.2.1 (by omega) (by omega) (by omega)), if_true, ev_bind (impl_GoodPair_ev st lf ln (by omega)), ev_bind (spec_GoodPair_ev st lf ln (by omega))]
  refine ev_succ.1 ?_
  simp only [laws_FnPairs.j0, Bool.false_eq_true, if_false]
  cases hok : (stepped st lf ln kind q).2.2.2
  · simp only [Bool.false_eq_true, if_false]
    exact FnPairs_last m hm
  · have g : goodP st lf ln = true := by
      cases g : goodP st lf ln
      · have e : stepped st lf ln kind q = nilP := by unfold stepped; rw [if_neg (by simp [g])]
        rw [e] at hok; cases hok
      · rfl
    obtain ⟨a, b, c, d, rfl, rfl⟩ := goodP_two g
    rw [stepped_two _ _ _ _ _ _ _ g] at hok hlen ⊢
    have g2 := good_step g hok
    have hlaw := stepP_law g hok
    simp only [if_true, ev_bind (impl_GoodPair_ev _ _ _ (by omega : (stepP a b c d ln kind q).2.2.1.length ≤ 9223372036854775806)), g2]
    generalize (stepP a b c d ln kind q).2.2.1 = ln' at g2 ⊢
    generalize (stepP a b c d ln kind q).2.1 = lf' at g2 ⊢
    generalize (stepP a b c d ln kind q).1 = st' at g2 hlaw ⊢
    obtain ⟨a', b', c', d', rfl, rfl⟩ := goodP_two g2
    refine FnPairs_round m a b a' b' kind q _ _ ln ln' 0 1 (by omega) (by omega) (by unfold wrap64; omega) (hlaw 0 (Or.inl rfl)).1 (hlaw 0 (Or.inl rfl)).2 ?_
    refine FnPairs_round m a b a' b' kind q _ _ ln ln' 1 2 (by omega) (by omega) (by unfold wrap64; omega) (hlaw 1 (Or.inr rfl)).1 (hlaw 1 (Or.inr rfl)).2 ?_
    refine ev_succ.1 ?_
    simp only [laws_FnPairs.l0, Int.lt_irrefl, if_false]
    exact FnPairs_last m hm

end Go.Proofs.Ytefdgdloghhnaaa.Pure
