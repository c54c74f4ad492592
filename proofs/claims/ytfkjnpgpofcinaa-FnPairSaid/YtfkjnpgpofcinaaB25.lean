/- What functions of the program answer, as plain functions: used by the laws of this claim. -/
import Derived.Test.YtfkjnpgpofcinaaB0
import Derived.Test.YtfkjnpgpofcinaaF25
import Derived.Test.YtfkjnpgpofcinaaB1
import Derived.Test.YtfkjnpgpofcinaaB20
import Derived.Test.YtfkjnpgpofcinaaQTree
namespace Go.Proofs.Ytfkjnpgpofcinaa.Pure
open Go.RowKit Go.Proofs.Ytfkjnpgpofcinaa.P Go.Proofs.YtfkjnpgpofcinaaW.PrintWords Go.Proofs.Ytfkjnpgpofcinaa.Q
set_option linter.unusedVariables false
set_option linter.unusedSimpArgs false

theorem spec_l1Cur_pairSteps_loop (l : List Int) (hl : bytesL l) : ∀ (m : Nat) (o : List S37) (at_ seed : Int), 0 ≤ at_ → at_ + 20 * m ≤ 1000000000 → o.length + m ≤ 1000 → ∃ r a s, Ev (fun k => spec_l1Cur_pairSteps.l0 k o (m : Int) l at_ seed) (r, a, s) ∧ r.length ≤ o.length + m ∧ at_ ≤ a ∧ a ≤ at_ + 20 * m := by
  intro m
  induction m with
  | zero =>
    intro o at_ seed _ _ _
    refine ⟨o, at_, seed, ev_succ.1 ?_, by omega, by omega, by omega⟩
    simp only [spec_l1Cur_pairSteps.l0, show (((0 : Nat) : Int) > 0) = False from eq_false (by omega), if_false]
    exact Ev.now _
  | succ m ih =>
    intro o at_ seed h0 h1 h2
    have hw : wrap64 (((m + 1 : Nat) : Int) - 1) = (m : Int) := by rw [w64 (by omega) (by omega)]; omega
    have ho : (o.length < 8796093022208) = True := eq_true (by omega)
    have hj : ∀ (x y b c : Int), at_ ≤ b → b ≤ at_ + 4 → ∃ r a s, Ev (fun k => spec_l1Cur_pairSteps.j2 k o ((m + 1 : Nat) : Int) l b c x y) (r, a, s) ∧ r.length ≤ o.length + (m + 1) ∧ at_ ≤ a ∧ a ≤ at_ + 20 * ((m + 1 : Nat) : Int) := by
      intro x y b c hb0 hb1
      obtain ⟨v, b2, c2, e, g0, g1⟩ := spec_l1Cur_one_ok l b c 30 hl (by omega) (by omega) (by omega)
      rcases Bool.eq_false_or_eq_true v with hv | hv
      · obtain ⟨v3, b3, c3, e3, _, _, i0, i1⟩ := spec_l1Cur_pick_ok l b2 c2 6 hl (by omega) (by omega) (by omega)
        obtain ⟨v4, b4, c4, e4, _, _, j0, j1⟩ := spec_l1Cur_pick_ok l b3 c3 5 hl (by omega) (by omega) (by omega)
        obtain ⟨r, a, s, he, k0, k1, k2⟩ := ih (o ++ [⟨v3, wrap64 (v4 - 1)⟩]) b4 c4 (by omega) (by omega) (by simp; omega)
        refine ⟨r, a, s, ev_succ.1 ?_, by simp at k0; omega, by omega, by omega⟩
        simp only [spec_l1Cur_pairSteps.j2, e, e3, e4, hv, Option.bind_some, if_true, ho, hw]
        exact he
      · obtain ⟨r, a, s, he, k0, k1, k2⟩ := ih (o ++ [⟨x, y⟩]) b2 c2 (by omega) (by omega) (by simp; omega)
        refine ⟨r, a, s, ev_succ.1 ?_, by simp at k0; omega, by omega, by omega⟩
        simp only [spec_l1Cur_pairSteps.j2, e, hv, Option.bind_some, Bool.false_eq_true, if_false, if_true, ho, hw]
        exact he
    obtain ⟨v, b, c, e, _, g0, g1⟩ := spec_l1Cur_among_ok l at_ seed [1, 1, 1, 2, 2, 2, 3, 4] hl h0 (by omega) (by simp) (by simp)
    obtain ⟨v2, b2, c2, e2, _, _, i0, i1⟩ := spec_l1Cur_pick_ok l b c 2 hl (by omega) (by omega) (by omega)
    by_cases h4 : v = 4
    · obtain ⟨r, a, s, he, k⟩ := hj v 0 b2 c2 (by omega) (by omega)
      refine ⟨r, a, s, ev_succ.1 ?_, k⟩
      simp only [spec_l1Cur_pairSteps.l0, e, e2, Option.bind_some, show (((m + 1 : Nat) : Int) > 0) = True from eq_true (by omega), if_true, if_pos h4]
      exact he
    · obtain ⟨r, a, s, he, k⟩ := hj v v2 b2 c2 (by omega) (by omega)
      refine ⟨r, a, s, ev_succ.1 ?_, k⟩
      simp only [spec_l1Cur_pairSteps.l0, e, e2, Option.bind_some, show (((m + 1 : Nat) : Int) > 0) = True from eq_true (by omega), if_true, if_neg h4]
      exact he
theorem spec_l1Cur_pairSteps_ok (l : List Int) (hl : bytesL l) (at_ seed : Int) (h0 : 0 ≤ at_) (h1 : at_ ≤ 100000000) : ∃ r a s, Ev (fun k => spec_l1Cur_pairSteps.f k l at_ seed) (r, a, s) ∧ r.length ≤ 100 ∧ at_ ≤ a ∧ a ≤ at_ + 3000 := by
  have hj : ∀ (n b c : Int), 0 ≤ n → n ≤ 62 → at_ ≤ b → b ≤ at_ + 10 → ∃ r a s, Ev (fun k => spec_l1Cur_pairSteps.j0 k [] n l b c) (r, a, s) ∧ r.length ≤ 100 ∧ at_ ≤ a ∧ a ≤ at_ + 3000 := by
    intro n b c n0 n1 hb0 hb1
    obtain ⟨r, a, s, he, k0, k1, k2⟩ := spec_l1Cur_pairSteps_loop l hl n.toNat [] b c (by omega) (by omega) (by simp; omega)
    rw [show ((n.toNat : Nat) : Int) = n by omega] at he
    refine ⟨r, a, s, ev_succ.1 ?_, by simp at k0; omega, by omega, by omega⟩
    simp only [spec_l1Cur_pairSteps.j0]
    exact he
  obtain ⟨v, b, c, e, p0, p1, g0, g1⟩ := spec_l1Cur_pick_ok l at_ seed 24 hl h0 (by omega) (by omega)
  obtain ⟨v2, b2, c2, e2, i0, i1⟩ := spec_l1Cur_one_ok l b c 20 hl (by omega) (by omega) (by omega)
  rcases Bool.eq_false_or_eq_true v2 with hv | hv
  · obtain ⟨v3, b3, c3, e3, q0, q1, j0, j1⟩ := spec_l1Cur_pick_ok l b2 c2 3 hl (by omega) (by omega) (by omega)
    have hw : wrap64 (59 + v3) = 59 + v3 := w64 (by omega) (by omega)
    obtain ⟨r, a, s, he, k⟩ := hj (59 + v3) b3 c3 (by omega) (by omega) (by omega) (by omega)
    refine ⟨r, a, s, ?_, k⟩
    unfold spec_l1Cur_pairSteps.f
    simp only [e, e2, e3, hv, Option.bind_some, if_true, hw]
    exact he
  · obtain ⟨r, a, s, he, k⟩ := hj v b2 c2 (by omega) (by omega) (by omega) (by omega)
    refine ⟨r, a, s, ?_, k⟩
    unfold spec_l1Cur_pairSteps.f
    simp only [e, e2, hv, Option.bind_some, Bool.false_eq_true, if_false]
    exact he

theorem impl_GoodPair_l1 (t : List S45) : ∀ p : List S45, (p ++ t).length ≤ 9223372036854775806 → Ev (fun k => impl_GoodPair.l1 k (p ++ t) ((p ++ t).length : Int) (p.length : Int)) (t.all (fun x => inB 0 1 x.f0)) := by
  induction t with
  | nil =>
    intro p _
    refine ev_succ.1 ?_
    simp only [impl_GoodPair.l1, c_end, Int.lt_irrefl, if_false, ev_some, List.all_nil]
  | cons x t ih =>
    intro p hb
    refine ev_succ.1 ?_
    have hn := ih (p ++ [x]) (by rwa [← c_app])
    simp only [impl_GoodPair.l1, c_lt, c_nn, rdHello_at, c_next _ _ _ hb, if_true, impl_in_eq, Option.bind_some, ev_ite, ev_some, List.all_cons]
    rw [← c_app] at hn
    cases h1 : inB 0 1 x.f0
    · simp
    · simpa using hn
theorem impl_GoodPair_l0 (a b c d : Int) (ln : List S45) (h : ln.length ≤ 9223372036854775806) : Ev (fun k => impl_GoodPair.l0 k [c, d] 2 0 [a, b] [c, d] ln) (((c == 0) == (a == 0)) && (((d == 0) == (b == 0)) && ln.all (fun x => inB 0 1 x.f0))) := by
  have l2 : ∀ x y : Int, (([x, y] : List Int).length : Int) = 2 := fun _ _ => rfl
  have h2 : Ev (fun k => impl_GoodPair.l0 k [c, d] 2 2 [a, b] [c, d] ln) (ln.all (fun x => inB 0 1 x.f0)) := by
    refine ev_succ.1 ?_
    simp only [impl_GoodPair.l0, Int.lt_irrefl, if_false]
    exact impl_GoodPair_l1 ln [] h
  have h1 : Ev (fun k => impl_GoodPair.l0 k [c, d] 2 1 [a, b] [c, d] ln) (((d == 0) == (b == 0)) && ln.all (fun x => inB 0 1 x.f0)) := by
    refine ev_succ.1 ?_
    simp only [impl_GoodPair.l0, l2, show ((1 : Int) < 2) = True from eq_true (by decide), show ((0 : Int) ≤ 1) = True from eq_true (by decide), show rd [a, b] 1 = b from rfl, show rd [c, d] 1 = d from rfl, show wrap64 (1 + 1) = 2 from (by unfold wrap64; omega), if_true, Option.bind_some, ev_ite, ev_some]
    generalize (d == 0) = p
    generalize (b == 0) = q
    cases p <;> cases q <;> simp <;> exact h2
  refine ev_succ.1 ?_
  simp only [impl_GoodPair.l0, l2, show ((0 : Int) < 2) = True from eq_true (by decide), show ((0 : Int) ≤ 0) = True from eq_true (by decide), show rd [a, b] 0 = a from rfl, show rd [c, d] 0 = c from rfl, show wrap64 (0 + 1) = 1 from (by unfold wrap64; omega), if_true, Option.bind_some, ev_ite, ev_some]
  generalize (c == 0) = p
  generalize (a == 0) = q
  cases p <;> cases q <;> simp <;> exact h1
theorem impl_GoodPair_ev (st lf : List Int) (ln : List S45) (h : ln.length ≤ 9223372036854775806) : Ev (fun k => impl_GoodPair.f k st lf ln) (goodP st lf ln) := by
  unfold impl_GoodPair.f
  have no : goodP st lf ln = false → Ev (fun k => impl_GoodPair.j0 k true st lf ln) (goodP st lf ln) := by
    intro g
    refine ev_succ.1 ?_
    simp only [impl_GoodPair.j0, if_true, ev_some]
    exact g.symm
  by_cases h1 : (st.length : Int) = 2
  · by_cases h2 : (lf.length : Int) = 2
    · obtain ⟨a, b, rfl⟩ := two_of_len h1
      obtain ⟨c, d, rfl⟩ := two_of_len h2
      simp only [h1, h2, if_true]
      by_cases h3 : (ln.length : Int) > 12
      · simp only [h3, if_true]
        exact no (by simp [goodP, show ¬ (ln.length ≤ 12) by omega])
      · simp only [h3, if_false, ev_bind (impl_allIn_ev 0 2 [a, b] (by simp)), ev_bind (impl_allIn_ev 0 3 [c, d] (by simp)), ev_ite]
        have h4 := impl_GoodPair_l0 a b c d ln h
        have e : goodP [a, b] [c, d] ln = (allB 0 2 [a, b] && (allB 0 3 [c, d] && (((c == 0) == (a == 0)) && (((d == 0) == (b == 0)) && ln.all (fun x => inB 0 1 x.f0))))) := by
          simp only [goodP, show (ln.length ≤ 12) = True from eq_true (by omega), decide_true, Bool.true_and, allB_cons, allB_nil, Bool.and_true]
          generalize ((c == 0) == (a == 0)) = p
          generalize ((d == 0) == (b == 0)) = q
          generalize ln.all (fun x => inB 0 1 x.f0) = r
          cases inB 0 2 a <;> cases inB 0 2 b <;> cases inB 0 3 c <;> cases inB 0 3 d <;> cases p <;> cases q <;> cases r <;> rfl
        cases g1 : allB 0 2 [a, b]
        · rw [if_neg (by simp)]
          exact no (by rw [e, g1]; rfl)
        · rw [if_pos rfl]
          cases g2 : allB 0 3 [c, d]
          · exact no (by rw [e, g1, g2]; rfl)
          · refine ev_succ.1 ?_
            simp only [impl_GoodPair.j0, Bool.not_true, Bool.false_eq_true, if_false]
            rw [e, g1, g2, Bool.true_and, Bool.true_and]
            exact h4
    · simp only [h1, h2, if_true, if_false]; exact no (goodP_one (fun hh => h2 hh.2))
  · simp only [h1, if_false]; exact no (goodP_one (fun hh => h1 hh.1))

theorem slices_Clone_int_int_eq (l : List Int) (h : l.length ≤ 2097152) : slices_Clone_int_int.f l = some l := by
  unfold slices_Clone_int_int.f
  simp only [Option.bind_some, List.nil_append, List.length_nil, Nat.zero_add]
  rw [if_pos (by omega)]

theorem impl_Hello_130_eq (l : List S45) (h : l.length ≤ 2097152) : impl_Hello_130.f l = some l := by
  unfold impl_Hello_130.f
  simp only [Option.bind_some, List.nil_append, List.length_nil, Nat.zero_add]
  rw [if_pos (by omega)]

theorem impl_Pair_own_eq (l0 l1 : List Int) (l2 : List S45) (h0 : l0.length ≤ 2097152) (h1 : l1.length ≤ 2097152) (h2 : l2.length ≤ 2097152) : impl_Pair_own.f l0 l1 l2 = some (l0, l1, l2) := by
  unfold impl_Pair_own.f
  simp only [slices_Clone_int_int_eq l0 h0, slices_Clone_int_int_eq l1 h1, impl_Hello_130_eq l2 h2, Option.bind_some]

end Go.Proofs.Ytfkjnpgpofcinaa.Pure
