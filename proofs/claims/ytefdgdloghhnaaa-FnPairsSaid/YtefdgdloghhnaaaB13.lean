/- What functions of the program answer, as plain functions: used by the laws of this claim. -/
import Derived.Test.YtefdgdloghhnaaaB0
import Derived.Test.YtefdgdloghhnaaaF13
import Derived.Test.YtefdgdloghhnaaaB1
import Derived.Test.YtefdgdloghhnaaaB3
import Derived.Test.YtefdgdloghhnaaaB4
import Derived.Test.YtefdgdloghhnaaaB6
import Derived.Test.YtefdgdloghhnaaaB7
import Derived.Test.YtefdgdloghhnaaaB9
import Derived.Test.YtefdgdloghhnaaaB12
import Derived.Test.YtefdgdloghhnaaaQFlow
import Derived.Test.YtefdgdloghhnaaaQTree
namespace Go.Proofs.Ytefdgdloghhnaaa.Pure
open Go.RowKit Go.Proofs.Ytefdgdloghhnaaa.P Go.Proofs.YtefdgdloghhnaaaW.PrintWords Go.Proofs.Ytefdgdloghhnaaa.Q
set_option linter.unusedVariables false
set_option linter.unusedSimpArgs false

theorem spec_l3Step_ok {a b c d : Int} {ln : List S36} {kind k : Int} (g : goodP [a, b] [c, d] ln = true) (h : (stepP a b c d ln kind k).2.2.2 = true) : Ev (fun n => spec_l3Step.f n [a, b] [c, d] ln kind k) (stepP a b c d ln kind k) := by
  obtain ⟨v, hv, hc⟩ := spec_l3Step_ev a b c d ln kind k g
  rcases hc with ⟨_, rfl⟩ | ⟨_, hn⟩
  · exact hv
  · rw [hn] at h; cases h
theorem settled {st lf : List Int} {ln : List S36} (g : goodP st lf ln = true) : ∃ a b c d, Ev (fun k => spec_SettlePair.l0 k [0, 1, 0] 3 0 st lf []) ([a, b], [c, d], [], true) ∧ (playP [⟨1, 0⟩, ⟨2, 0⟩, ⟨1, 1⟩, ⟨2, 0⟩, ⟨1, 0⟩, ⟨2, 0⟩] st lf [] []) = ([a, b], [c, d], [], [true, true, true, true, true, true]) := by
  obtain ⟨a, b, c, d, rfl, rfl⟩ := goodP_two g
  have g0 : goodP [a, b] [c, d] [] = true := by
    simp only [goodP, Bool.and_eq_true, decide_eq_true_eq] at g ⊢
    exact ⟨by simp, g.2.1, g.2.2.1, rfl⟩
  obtain ⟨a1, b1, c1, d1, y1, p1, q1, r1, t1⟩ := settle1 (Or.inl rfl : (0 : Int) = 0 ∨ (0 : Int) = 1) g0
  obtain ⟨a2, b2, c2, d2, y2, p2, q2, r2, t2⟩ := settle1 (Or.inr rfl : (1 : Int) = 0 ∨ (1 : Int) = 1) t1
  obtain ⟨a3, b3, c3, d3, y3, p3, q3, r3, t3⟩ := settle1 (Or.inl rfl : (0 : Int) = 0 ∨ (0 : Int) = 1) t2
  refine ⟨a3, b3, c3, d3, ?_, ?_⟩
  · have s : ∀ {a b c d a' b' c' d' s : Int} {y : S36} (i j : Int), 0 ≤ i → i < 3 → wrap64 (i + 1) = j → rd [0, 1, 0] i = s → goodP [a, b] [c, d] [] = true → stepP a b c d [] 1 s = ([a, b], [c, d], [y], true) → goodP [a, b] [c, d] [y] = true → stepP a b c d [y] 2 0 = ([a', b'], [c', d'], [], true) → ∀ r, Ev (fun k => spec_SettlePair.l0 k [0, 1, 0] 3 j [a', b'] [c', d'] []) r → Ev (fun k => spec_SettlePair.l0 k [0, 1, 0] 3 i [a, b] [c, d] []) r := by
      intro a b c d a' b' c' d' s y i j h0 h1 hw hs g p q rr r hr
      refine ev_succ.1 ?_
      have e1 := spec_l3Step_ok g (by rw [p])
      rw [p] at e1
      have e2 := spec_l3Step_ok q (by rw [rr])
      rw [rr] at e2
      simp only [spec_SettlePair.l0, show (i < 3) = True from eq_true h1, show (0 ≤ i) = True from eq_true h0, show (i < (([0, 1, 0] : List Int).length : Int)) = True from eq_true h1, if_true, hs, ev_bind e1, ev_bind e2, hw]
      exact hr
    refine s 0 1 (by omega) (by omega) (by unfold wrap64; omega) rfl g0 p1 q1 r1 _ (s 1 2 (by omega) (by omega) (by unfold wrap64; omega) rfl t1 p2 q2 r2 _ (s 2 3 (by omega) (by omega) (by unfold wrap64; omega) rfl t2 p3 q3 r3 _ ?_))
    refine ev_succ.1 ?_
    simp only [spec_SettlePair.l0, Int.lt_irrefl, if_false, spec_l3Own_eq [a3, b3] [c3, d3] [] (by simp) (by simp) (by simp), Option.bind_some, ev_some]
  · simp only [playP, stepped_two _ _ _ _ _ _ _ g0, p1, stepped_two _ _ _ _ _ _ _ q1, r1, stepped_two _ _ _ _ _ _ _ t1, p2, stepped_two _ _ _ _ _ _ _ q2, r2, stepped_two _ _ _ _ _ _ _ t2, p3, stepped_two _ _ _ _ _ _ _ q3, r3, if_true, List.nil_append, List.cons_append]
theorem settledV_len (st lf : List Int) (ln : List S36) : (settledV st lf ln).1.length ≤ 2 ∧ (settledV st lf ln).2.1.length ≤ 2 ∧ (settledV st lf ln).2.2.1.length ≤ 12 := by
  unfold settledV
  split
  · rename_i g
    obtain ⟨a, b, c, d, _, e⟩ := settled g
    rw [e]; simp
  · simp [nilP]
theorem spec_SettlePair_ev (st lf : List Int) (ln : List S36) (h0 : st.length ≤ 1048576) (h1 : lf.length ≤ 1048576) (h2 : ln.length ≤ 1048576) : Ev (fun k => spec_SettlePair.f k st lf ln) (settledV st lf ln) := by
  unfold spec_SettlePair.f settledV
  simp only [ev_bind (spec_GoodPair_ev st lf ln (by omega))]
  cases g : goodP st lf ln
  · simp only [Bool.false_eq_true, if_false, ev_some]; rfl
  · obtain ⟨a, b, c, d, hv, e⟩ := settled g
    simp only [if_true, spec_l3Own_eq st lf ln (by omega) (by omega) (by omega), Option.bind_some]
    rw [e]
    exact hv

theorem impl_AreBoth_two (a b c d : Int) (ln : List S36) (g : goodP [a, b] [c, d] ln = true) : Ev (fun k => impl_AreBoth.f k [a, b] [c, d] ln) (decide (a = 2 ∧ b = 2), true) := by
  have gl := goodP_ln g
  unfold impl_AreBoth.f
  simp only [ev_bind (impl_GoodPair_ev [a, b] [c, d] ln (by omega)), g, if_true, ev_ite, ev_some, show (0 < (([a, b] : List Int).length : Int)) = True from eq_true (by simp), show (1 < (([a, b] : List Int).length : Int)) = True from eq_true (by simp), show rd [a, b] 0 = a from rfl, show rd [a, b] 1 = b from rfl]
  by_cases h : a = 2
  · rw [if_pos h]
    by_cases h2 : b = 2 <;> simp [h, h2]
  · rw [if_neg h]
    simp [h]
theorem impl_AreBoth_ev (st lf : List Int) (ln : List S36) (h : ln.length ≤ 1048576) : Ev (fun k => impl_AreBoth.f k st lf ln) (areV st lf ln) := by
  unfold impl_AreBoth.f areV
  simp only [ev_bind (impl_GoodPair_ev st lf ln (by omega))]
  cases g : goodP st lf ln
  · simp only [Bool.false_eq_true, if_false, ev_some]
  · obtain ⟨a, b, c, d, rfl, rfl⟩ := goodP_two g
    simp only [if_true, ev_ite, ev_some, show (0 < (([a, b] : List Int).length : Int)) = True from eq_true (by simp), show (1 < (([a, b] : List Int).length : Int)) = True from eq_true (by simp), show rd [a, b] 0 = a from rfl, show rd [a, b] 1 = b from rfl]
    by_cases h : a = 2
    · rw [if_pos h]
      by_cases h2 : b = 2 <;> simp [h, h2]
    · rw [if_neg h]
      simp [h]

theorem spec_AreBoth_ev (st lf : List Int) (ln : List S36) (h : ln.length ≤ 1048576) : Ev (fun k => spec_AreBoth.f k st lf ln) (areV st lf ln) := by
  unfold spec_AreBoth.f areV
  simp only [ev_bind (spec_GoodPair_ev st lf ln (by omega))]
  cases g : goodP st lf ln
  · simp only [Bool.false_eq_true, if_false, ev_some]
  · obtain ⟨a, b, c, d, rfl, rfl⟩ := goodP_two g
    simp only [if_true, ev_ite, ev_some, show (0 < (([a, b] : List Int).length : Int)) = True from eq_true (by simp), show (1 < (([a, b] : List Int).length : Int)) = True from eq_true (by simp), show rd [a, b] 0 = a from rfl, show rd [a, b] 1 = b from rfl]
    by_cases h : a = 2
    · rw [if_pos h]
      by_cases h2 : b = 2 <;> simp [h, h2]
    · rw [if_neg h]
      simp [h]

theorem spec_DrawNewPair_ok (l : List Int) (hl : bytesL l) : ∃ v, spec_DrawNewPair.f l = some v := by
  obtain ⟨v, a, s, e1, _⟩ := spec_l1Cur_pick_ok l 0 0 6 hl (by omega) (by omega) (by omega)
  refine ⟨wrap64 (v - 1), ?_⟩
  unfold spec_DrawNewPair.f
  simp only [slices_xorshift_Next_eq, Option.bind_some, e1]

theorem impl_NewPair_all (a : Int) : impl_NewPair.f a = some (newP a) := by
  unfold impl_NewPair.f newP
  simp only [impl_in_eq, Option.bind_some]
  cases h : inB 0 3 a
  · rfl
  · simp only [if_true]
    by_cases h0 : a = 0
    · rw [if_pos h0, if_pos h0]
    · rw [if_neg h0, if_neg h0]
theorem impl_NewPair_eq : impl_NewPair.f 0 = some ([0, 0], [0, 0], [], true) := impl_NewPair_all 0

end Go.Proofs.Ytefdgdloghhnaaa.Pure
