/- What functions of the program answer, as plain functions: used by the laws of this claim. -/
import Derived.Test.YtolncjkfcmbieaaB0
import Derived.Test.YtolncjkfcmbieaaF44
import Derived.Test.YtolncjkfcmbieaaB34
import Derived.Test.YtolncjkfcmbieaaB35
import Derived.Test.YtolncjkfcmbieaaB36
import Derived.Test.YtolncjkfcmbieaaB40
import Derived.Test.YtolncjkfcmbieaaB46
import Derived.Test.YtolncjkfcmbieaaQTree
namespace Go.Proofs.Ytolncjkfcmbieaa.Pure
open Go.RowKit Go.Proofs.Ytolncjkfcmbieaa.P Go.Proofs.YtolncjkfcmbieaaW.PrintWords Go.Proofs.Ytolncjkfcmbieaa.Q
set_option linter.unusedVariables false
set_option linter.unusedSimpArgs false

theorem spec_l3Step_ok {a b c d : Int} {ln : List S127} {kind k : Int} (g : goodP [a, b] [c, d] ln = true) (h : (stepP a b c d ln kind k).2.2.2 = true) : Ev (fun n => spec_l3Step.f n [a, b] [c, d] ln kind k) (stepP a b c d ln kind k) := by
  obtain ⟨v, hv, hc⟩ := spec_l3Step_ev a b c d ln kind k g
  rcases hc with ⟨_, rfl⟩ | ⟨_, hn⟩
  · exact hv
  · rw [hn] at h; cases h
theorem settled {st lf : List Int} {ln : List S127} (g : goodP st lf ln = true) : ∃ a b c d, Ev (fun k => spec_SettlePair.l0 k [0, 1, 0] 3 0 st lf []) ([a, b], [c, d], [], true) ∧ (playP [⟨1, 0⟩, ⟨2, 0⟩, ⟨1, 1⟩, ⟨2, 0⟩, ⟨1, 0⟩, ⟨2, 0⟩] st lf [] []) = ([a, b], [c, d], [], [true, true, true, true, true, true]) := by
  obtain ⟨a, b, c, d, rfl, rfl⟩ := goodP_two g
  have g0 : goodP [a, b] [c, d] [] = true := by
    simp only [goodP, Bool.and_eq_true, decide_eq_true_eq] at g ⊢
    exact ⟨by simp, g.2.1, g.2.2.1, rfl⟩
  obtain ⟨a1, b1, c1, d1, y1, p1, q1, r1, t1⟩ := settle1 (Or.inl rfl : (0 : Int) = 0 ∨ (0 : Int) = 1) g0
  obtain ⟨a2, b2, c2, d2, y2, p2, q2, r2, t2⟩ := settle1 (Or.inr rfl : (1 : Int) = 0 ∨ (1 : Int) = 1) t1
  obtain ⟨a3, b3, c3, d3, y3, p3, q3, r3, t3⟩ := settle1 (Or.inl rfl : (0 : Int) = 0 ∨ (0 : Int) = 1) t2
  refine ⟨a3, b3, c3, d3, ?_, ?_⟩
  · have s : ∀ {a b c d a' b' c' d' s : Int} {y : S127} (i j : Int), 0 ≤ i → i < 3 → wrap64 (i + 1) = j → rd [0, 1, 0] i = s → goodP [a, b] [c, d] [] = true → stepP a b c d [] 1 s = ([a, b], [c, d], [y], true) → goodP [a, b] [c, d] [y] = true → stepP a b c d [y] 2 0 = ([a', b'], [c', d'], [], true) → ∀ r, Ev (fun k => spec_SettlePair.l0 k [0, 1, 0] 3 j [a', b'] [c', d'] []) r → Ev (fun k => spec_SettlePair.l0 k [0, 1, 0] 3 i [a, b] [c, d] []) r := by
      intro a b c d a' b' c' d' s y i j h0 h1 hw hs g p q rr r hr
      refine ev_succ.1 ?_
      have e1 := spec_l3Step_ok g (by rw [p])
      rw [p] at e1
      have e2 := spec_l3Step_ok q (by rw [rr])
      rw [rr] at e2
      simp only [spec_SettlePair.l0, show (i < 3) = True from eq_true h1, show (0 ≤ i) = True from eq_true h0, show (i < (([0, 1, 0] : List Int).length : Int)) = True from eq_true h1, if_true, hs, ev_bind e1, ev_bind e2, hw]
      exact hr
    refine s 0 1 (by omega) (by omega) (by unfold wrap64; omega) rfl g0 p1 q1 r1 _ (s 1 2 (by omega) (by omega) (by unfold wrap64; omega) rfl t1 p2 q2 r2 _ (s 2 3 (by omega) (by omega) (by unfold wrap64; omega) rfl t2 p3 q3 r3 _ ?_))
    refine ev_succ.1 ?_
    simp only [spec_SettlePair.l0, Int.lt_irrefl, if_false, spec_l3Own_eq [a3, b3] [c3, d3] [] (by simp) (by simp) (by simp), Option.bind_some, ev_some]
  · simp only [playP, stepped_two _ _ _ _ _ _ _ g0, p1, stepped_two _ _ _ _ _ _ _ q1, r1, stepped_two _ _ _ _ _ _ _ t1, p2, stepped_two _ _ _ _ _ _ _ q2, r2, stepped_two _ _ _ _ _ _ _ t2, p3, stepped_two _ _ _ _ _ _ _ q3, r3, if_true, List.nil_append, List.cons_append]
def settledV (st lf : List Int) (ln : List S127) : List Int × List Int × List S127 × Bool := if goodP st lf ln = true then ((playP [⟨1, 0⟩, ⟨2, 0⟩, ⟨1, 1⟩, ⟨2, 0⟩, ⟨1, 0⟩, ⟨2, 0⟩] st lf [] []).1, (playP [⟨1, 0⟩, ⟨2, 0⟩, ⟨1, 1⟩, ⟨2, 0⟩, ⟨1, 0⟩, ⟨2, 0⟩] st lf [] []).2.1, [], true) else nilP
theorem settledV_len (st lf : List Int) (ln : List S127) : (settledV st lf ln).1.length ≤ 2 ∧ (settledV st lf ln).2.1.length ≤ 2 ∧ (settledV st lf ln).2.2.1.length ≤ 12 := by
  unfold settledV
  split
  · rename_i g
    obtain ⟨a, b, c, d, _, e⟩ := settled g
    rw [e]; simp
  · simp [nilP]
theorem spec_SettlePair_ev (st lf : List Int) (ln : List S127) (h0 : st.length ≤ 1048576) (h1 : lf.length ≤ 1048576) (h2 : ln.length ≤ 1048576) : Ev (fun k => spec_SettlePair.f k st lf ln) (settledV st lf ln) := by
  unfold spec_SettlePair.f settledV
  simp only [ev_bind (spec_GoodPair_ev st lf ln (by omega))]
  cases g : goodP st lf ln
  · simp only [Bool.false_eq_true, if_false, ev_some]; rfl
  · obtain ⟨a, b, c, d, hv, e⟩ := settled g
    simp only [if_true, spec_l3Own_eq st lf ln (by omega) (by omega) (by omega), Option.bind_some]
    rw [e]
    exact hv

theorem impl_SettlePair_ev (st lf : List Int) (ln : List S127) (h0 : st.length ≤ 1048576) (h1 : lf.length ≤ 1048576) (h2 : ln.length ≤ 1048576) : Ev (fun k => impl_SettlePair.f k st lf ln) (settledV st lf ln) := by
  unfold impl_SettlePair.f settledV
  simp only [ev_bind (impl_GoodPair_ev st lf ln (by omega))]
  cases g : goodP st lf ln
  · simp only [Bool.false_eq_true, if_false, ev_some]; rfl
  · obtain ⟨a, b, c, d, hv, e⟩ := settled g
    simp only [if_true, impl_Pair_own_eq st lf ln (by omega) (by omega) (by omega), Option.bind_some, ev_bind (impl_played_ev [⟨1, 0⟩, ⟨2, 0⟩, ⟨1, 1⟩, ⟨2, 0⟩, ⟨1, 0⟩, ⟨2, 0⟩] st lf [] (by simp) (by simp)), ev_some]
    rw [e]

end Go.Proofs.Ytolncjkfcmbieaa.Pure
