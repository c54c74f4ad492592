/- What functions of the program answer, as plain functions: used by the laws of this claim. -/
import Derived.Test.YtefdgdloghhnaaaB0
import Derived.Test.YtefdgdloghhnaaaF7
import Derived.Test.YtefdgdloghhnaaaQFlow
import Derived.Test.YtefdgdloghhnaaaQTree
namespace Go.Proofs.Ytefdgdloghhnaaa.Pure
open Go.RowKit Go.Proofs.Ytefdgdloghhnaaa.P Go.Proofs.YtefdgdloghhnaaaW.PrintWords Go.Proofs.Ytefdgdloghhnaaa.Q
set_option linter.unusedVariables false
set_option linter.unusedSimpArgs false

/-! The draw of a step: behind the law's own lemmas (an import ring else). -/

theorem impl_in_eq (a b c : Int) : impl_in.f a b c = some (inB b c a) := by
  unfold impl_in.f inB
  by_cases h1 : a ≥ b <;> by_cases h2 : a ≤ c <;> simp [h1, h2] <;> omega

theorem impl_allIn_loop (lo hi : Int) (t : List Int) : ∀ p : List Int, (p ++ t).length ≤ 9223372036854775806 → Ev (fun k => impl_allIn.l0 k lo hi (p ++ t) ((p ++ t).length : Int) (p.length : Int)) (allB lo hi t) := by
  induction t with
  | nil =>
    intro p _
    refine ev_succ.1 ?_
    simp only [impl_allIn.l0, c_end, Int.lt_irrefl, if_false, ev_some]
    simp [allB_nil]
  | cons x t ih =>
    intro p hb
    refine ev_succ.1 ?_
    have hn := ih (p ++ [x]) (by rwa [← c_app])
    simp only [impl_allIn.l0, c_lt, c_nn, c_rd, c_next _ _ _ hb, if_true, impl_in_eq, Option.bind_some, ev_ite, ev_some]
    rw [← c_app] at hn
    cases h1 : inB lo hi x
    · simp [h1, allB_cons]
    · simpa [h1, allB_cons] using hn
theorem impl_allIn_ev (lo hi : Int) (l : List Int) (h : l.length ≤ 9223372036854775806) : Ev (fun k => impl_allIn.f k l lo hi) (allB lo hi l) := impl_allIn_loop lo hi l [] h

theorem impl_GoodPair_l1 (t : List S36) : ∀ p : List S36, (p ++ t).length ≤ 9223372036854775806 → Ev (fun k => impl_GoodPair.l1 k (p ++ t) ((p ++ t).length : Int) (p.length : Int)) (t.all (fun x => inB 0 1 x.f0)) := by
  induction t with
  | nil =>
    intro p _
    refine ev_succ.1 ?_
    simp only [impl_GoodPair.l1, c_end, Int.lt_irrefl, if_false, ev_some, List.all_nil]
  | cons x t ih =>
    intro p hb
    refine ev_succ.1 ?_
    have hn := ih (p ++ [x]) (by rwa [← c_app])
    simp only [impl_GoodPair.l1, c_lt, c_nn, rdHello_at, c_next _ _ _ hb, if_true, impl_in_eq, Option.bind_some, ev_ite, ev_some, List.all_cons]
    rw [← c_app] at hn
    cases h1 : inB 0 1 x.f0
    · simp
    · simpa using hn
theorem impl_GoodPair_l0 (a b c d : Int) (ln : List S36) (h : ln.length ≤ 9223372036854775806) : Ev (fun k => impl_GoodPair.l0 k [c, d] 2 0 [a, b] [c, d] ln) (((c == 0) == (a == 0)) && (((d == 0) == (b == 0)) && ln.all (fun x => inB 0 1 x.f0))) := by
  have l2 : ∀ x y : Int, (([x, y] : List Int).length : Int) = 2 := fun _ _ => rfl
  have h2 : Ev (fun k => impl_GoodPair.l0 k [c, d] 2 2 [a, b] [c, d] ln) (ln.all (fun x => inB 0 1 x.f0)) := by
    refine ev_succ.1 ?_
    simp only [impl_GoodPair.l0, Int.lt_irrefl, if_false]
    exact impl_GoodPair_l1 ln [] h
  have h1 : Ev (fun k => impl_GoodPair.l0 k [c, d] 2 1 [a, b] [c, d] ln) (((d == 0) == (b == 0)) && ln.all (fun x => inB 0 1 x.f0)) := by
    refine ev_succ.1 ?_
    simp only [impl_GoodPair.l0, l2, show ((1 : Int) < 2) = True from eq_true (by decide), show ((0 : Int) ≤ 1) = True from eq_true (by decide), show rd [a, b] 1 = b from rfl, show rd [c, d] 1 = d from rfl, show wrap64 (1 + 1) = 2 from (by unfold wrap64; omega), if_true, Option.bind_some, ev_ite, ev_some]
    generalize (d == 0) = p
    generalize (b == 0) = q
    cases p <;> cases q <;> simp <;> exact h2
  refine ev_succ.1 ?_
  simp only [impl_GoodPair.l0, l2, show ((0 : Int) < 2) = True from eq_true (by decide), show ((0 : Int) ≤ 0) = True from eq_true (by decide), show rd [a, b] 0 = a from rfl, show rd [c, d] 0 = c from rfl, show wrap64 (0 + 1) = 1 from (by unfold wrap64; omega), if_true, Option.bind_some, ev_ite, ev_some]
  generalize (c == 0) = p
  generalize (a == 0) = q
  cases p <;> cases q <;> simp <;> exact h1
theorem impl_GoodPair_ev (st lf : List Int) (ln : List S36) (h : ln.length ≤ 9223372036854775806) : Ev (fun k => impl_GoodPair.f k st lf ln) (goodP st lf ln) := by
  unfold impl_GoodPair.f
  have no : goodP st lf ln = false → Ev (fun k => impl_GoodPair.j0 k true st lf ln) (goodP st lf ln) := by
    intro g
    refine ev_succ.1 ?_
    simp only [impl_GoodPair.j0, if_true, ev_some]
    exact g.symm
  by_cases h1 : (st.length : Int) = 2
  · by_cases h2 : (lf.length : Int) = 2
    · obtain ⟨a, b, rfl⟩ := two_of_len h1
      obtain ⟨c, d, rfl⟩ := two_of_len h2
      simp only [h1, h2, if_true]
      by_cases h3 : (ln.length : Int) > 12
      · simp only [h3, if_true]
        exact no (by simp [goodP, show ¬ (ln.length ≤ 12) by omega])
      · simp only [h3, if_false, ev_bind (impl_allIn_ev 0 2 [a, b] (by simp)), ev_bind (impl_allIn_ev 0 3 [c, d] (by simp)), ev_ite]
        have h4 := impl_GoodPair_l0 a b c d ln h
        have e : goodP [a, b] [c, d] ln = (allB 0 2 [a, b] && (allB 0 3 [c, d] && (((c == 0) == (a == 0)) && (((d == 0) == (b == 0)) && ln.all (fun x => inB 0 1 x.f0))))) := by
          simp only [goodP, show (ln.length ≤ 12) = True from eq_true (by omega), decide_true, Bool.true_and, allB_cons, allB_nil, Bool.and_true]
          generalize ((c == 0) == (a == 0)) = p
          generalize ((d == 0) == (b == 0)) = q
          generalize ln.all (fun x => inB 0 1 x.f0) = r
          cases inB 0 2 a <;> cases inB 0 2 b <;> cases inB 0 3 c <;> cases inB 0 3 d <;> cases p <;> cases q <;> cases r <;> rfl
        cases g1 : allB 0 2 [a, b]
        · rw [if_neg (by simp)]
          exact no (by rw [e, g1]; rfl)
        · rw [if_pos rfl]
          cases g2 : allB 0 3 [c, d]
          · exact no (by rw [e, g1, g2]; rfl)
          · refine ev_succ.1 ?_
            simp only [impl_GoodPair.j0, Bool.not_true, Bool.false_eq_true, if_false]
            rw [e, g1, g2, Bool.true_and, Bool.true_and]
            exact h4
    · simp only [h1, h2, if_true, if_false]; exact no (goodP_one (fun hh => h2 hh.2))
  · simp only [h1, if_false]; exact no (goodP_one (fun hh => h1 hh.1))

theorem slices_Clone_int_int_eq (l : List Int) (h : l.length ≤ 2097152) : slices_Clone_int_int.f l = some l := by
  unfold slices_Clone_int_int.f
  simp only [Option.bind_some, List.nil_append, List.length_nil, Nat.zero_add]
  rw [if_pos (by omega)]

theorem impl_Hello_37_eq (l : List S36) (h : l.length ≤ 2097152) : impl_Hello_37.f l = some l := by
  unfold impl_Hello_37.f
  simp only [Option.bind_some, List.nil_append, List.length_nil, Nat.zero_add]
  rw [if_pos (by omega)]

theorem impl_Pair_own_eq (l0 l1 : List Int) (l2 : List S36) (h0 : l0.length ≤ 2097152) (h1 : l1.length ≤ 2097152) (h2 : l2.length ≤ 2097152) : impl_Pair_own.f l0 l1 l2 = some (l0, l1, l2) := by
  unfold impl_Pair_own.f
  simp only [slices_Clone_int_int_eq l0 h0, slices_Clone_int_int_eq l1 h1, impl_Hello_37_eq l2 h2, Option.bind_some]

theorem impl_Hello_22_eq (l : List S36) (i : Int) (h0 : 0 ≤ i) (h1 : i < l.length) (h : l.length ≤ 2097152) : impl_Hello_22.f l i (i + 1) = some (l.take i.toNat ++ l.drop (i + 1).toNat) := by
  unfold impl_Hello_22.f
  have hm : min i.toNat (i + 1).toNat = i.toNat := Nat.min_eq_left (by omega)
  simp only [Option.bind_some, List.nil_append, List.length_nil, Nat.zero_add, List.take_take, hm, List.length_take, List.length_drop]
  rw [if_pos (by omega), if_pos (by omega), if_pos h0, if_pos (by omega), if_neg (by omega), if_pos (by omega), if_pos (by omega)]

theorem impl_nextState_eq (b : Bool) : impl_nextState.f b = some (if b then 2 else 1) := by
  unfold impl_nextState.f; cases b <;> rfl

end Go.Proofs.Ytefdgdloghhnaaa.Pure
