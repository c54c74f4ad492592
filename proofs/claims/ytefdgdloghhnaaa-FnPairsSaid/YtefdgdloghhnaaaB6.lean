/- What functions of the program answer, as plain functions: used by the laws of this claim. -/
import Derived.Test.YtefdgdloghhnaaaB0
import Derived.Test.YtefdgdloghhnaaaF6
import Derived.Test.YtefdgdloghhnaaaB1
import Derived.Test.YtefdgdloghhnaaaB5
import Derived.Test.YtefdgdloghhnaaaB12
import Derived.Test.YtefdgdloghhnaaaQFlow
namespace Go.Proofs.Ytefdgdloghhnaaa.Pure
open Go.RowKit Go.Proofs.Ytefdgdloghhnaaa.P Go.Proofs.YtefdgdloghhnaaaW.PrintWords Go.Proofs.Ytefdgdloghhnaaa.Q
set_option linter.unusedVariables false
set_option linter.unusedSimpArgs false

theorem spec_l1Cur_pair_last (l : List Int) (hl : bytesL l) (a b c d : Int) (ln : List S36) (at_ seed : Int) (h0 : 0 ≤ at_) (h1 : at_ ≤ 100000000) : ∃ st lf a' s, Ev (fun k => spec_l1Cur_pair.j0 k l at_ seed [a, b] [c, d] ln) (st, lf, ln, a', s) ∧ st.length = 2 ∧ lf.length = 2 ∧ at_ ≤ a' ∧ a' ≤ at_ + 10 := by
  obtain ⟨v, a1, s1, e1, _, _, p0, p1⟩ := spec_l1Cur_pick_ok l at_ seed 20 hl h0 (by omega) (by omega)
  obtain ⟨v2, a2, s2, e2, _, _, q0, q1⟩ := spec_l1Cur_pick_ok l a1 s1 5 hl (by omega) (by omega) (by omega)
  by_cases hv : v = 0
  · refine ⟨[a, b], [c, d].set (0 : Int).toNat v2, a2, s2, ev_succ.1 ?_, rfl, rfl, by omega, by omega⟩
    simp only [spec_l1Cur_pair.j0, e1, e2, Option.bind_some, if_pos hv, show (0 < (([c, d] : List Int).length : Int)) = True from eq_true (by simp), if_true]
    exact Ev.now _
  · by_cases hv1 : v = 1
    · refine ⟨[a, b].set (1 : Int).toNat (wrap64 (v2 - 1)), [c, d], a2, s2, ev_succ.1 ?_, rfl, rfl, by omega, by omega⟩
      simp only [spec_l1Cur_pair.j0, e1, e2, Option.bind_some, if_neg hv, if_pos hv1, show (1 < (([a, b] : List Int).length : Int)) = True from eq_true (by simp), if_true]
      exact Ev.now _
    · refine ⟨[a, b], [c, d], a1, s1, ev_succ.1 ?_, rfl, rfl, by omega, by omega⟩
      simp only [spec_l1Cur_pair.j0, e1, Option.bind_some, if_neg hv, if_neg hv1]
      exact Ev.now _
theorem spec_l1Cur_pair_ok (l : List Int) (hl : bytesL l) (at_ seed : Int) (h0 : 0 ≤ at_) (h1 : at_ ≤ 10000000) : ∃ st lf ln a s, Ev (fun k => spec_l1Cur_pair.f k l at_ seed) (st, lf, ln, a, s) ∧ st.length = 2 ∧ lf.length = 2 ∧ ln.length ≤ 12 ∧ at_ ≤ a ∧ a ≤ at_ + 4000 := by
  obtain ⟨r, a1, s1, e1, _, p0, p1⟩ := spec_l1Cur_pairSteps_ok l hl at_ seed h0 (by omega)
  have hp := spec_PlayPair_ev r
  by_cases h : (r.length : Int) > 60
  · have e : playedV r = ([], [], [], [], false) := by unfold playedV; rw [if_pos h]
    rw [e] at hp
    obtain ⟨st, lf, a2, s2, he, k0, k1, k2, k3⟩ := spec_l1Cur_pair_last l hl 1 1 2 2 [] a1 s1 (by omega) (by omega)
    refine ⟨st, lf, [], a2, s2, ?_, k0, k1, by simp, by omega, by omega⟩
    unfold spec_l1Cur_pair.f
    have hn : spec_NewPair.f 2 = some ([1, 1], [2, 2], [], true) := spec_NewPair_all 2
    simp only [ev_bind e1, ev_bind hp, Bool.false_eq_true, if_false, hn, Option.bind_some]
    exact he
  · have g := playP_good r [0, 0] [0, 0] [] [] rfl
    have gl := goodP_ln g
    have e : playedV r = ((playP r [0, 0] [0, 0] [] []).1, (playP r [0, 0] [0, 0] [] []).2.1, (playP r [0, 0] [0, 0] [] []).2.2.1, (playP r [0, 0] [0, 0] [] []).2.2.2, true) := by unfold playedV; rw [if_neg h]
    rw [e] at hp
    obtain ⟨a, b, c, d, q1, q2⟩ := goodP_two g
    rw [q1, q2] at hp
    obtain ⟨st, lf, a2, s2, he, k0, k1, k2, k3⟩ := spec_l1Cur_pair_last l hl a b c d (playP r [0, 0] [0, 0] [] []).2.2.1 a1 s1 (by omega) (by omega)
    refine ⟨st, lf, _, a2, s2, ?_, k0, k1, gl, by omega, by omega⟩
    unfold spec_l1Cur_pair.f
    simp only [ev_bind e1, ev_bind hp, if_true]
    exact he

theorem slices_xorshift_Next_eq (l : List Int) : slices_xorshift_Next.f l = some (l, 0, 0) := rfl

end Go.Proofs.Ytefdgdloghhnaaa.Pure
