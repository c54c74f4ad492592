/- What functions of the program answer, as plain functions: used by the laws of this claim. -/
import Derived.Test.YtefdgdloghhnaaaB0
import Derived.Test.YtefdgdloghhnaaaF9
import Derived.Test.YtefdgdloghhnaaaB1
import Derived.Test.YtefdgdloghhnaaaQFlow
import Derived.Test.YtefdgdloghhnaaaQTree
namespace Go.Proofs.Ytefdgdloghhnaaa.Pure
open Go.RowKit Go.Proofs.Ytefdgdloghhnaaa.P Go.Proofs.YtefdgdloghhnaaaW.PrintWords Go.Proofs.Ytefdgdloghhnaaa.Q
set_option linter.unusedVariables false
set_option linter.unusedSimpArgs false

theorem spec_GoodPair_l1 (t : List S36) : ∀ p : List S36, (p ++ t).length ≤ 9223372036854775806 → Ev (fun k => spec_GoodPair.l1 k (p ++ t) ((p ++ t).length : Int) (p.length : Int)) (t.all (fun x => inB 0 1 x.f0)) := by
  induction t with
  | nil =>
    intro p _
    refine ev_succ.1 ?_
    simp only [spec_GoodPair.l1, c_end, Int.lt_irrefl, if_false, ev_some, List.all_nil]
  | cons x t ih =>
    intro p hb
    refine ev_succ.1 ?_
    have hn := ih (p ++ [x]) (by rwa [← c_app])
    simp only [spec_GoodPair.l1, c_lt, c_nn, rdHello_at, c_next _ _ _ hb, if_true, spec_l3Side_eq, Option.bind_some, ev_ite, ev_some, List.all_cons]
    rw [← c_app] at hn
    cases h1 : inB 0 1 x.f0
    · simp
    · simpa using hn
theorem spec_GoodPair_l0 (a b c d : Int) (ln : List S36) (h : ln.length ≤ 9223372036854775806) : Ev (fun k => spec_GoodPair.l0 k [a, b] 2 0 [a, b] [c, d] ln) (inB 0 2 a && inB 0 3 c && ((c == 0) == (a == 0)) && (inB 0 2 b && inB 0 3 d && ((d == 0) == (b == 0)) && ln.all (fun x => inB 0 1 x.f0))) := by
  have l2 : ∀ x y : Int, (([x, y] : List Int).length : Int) = 2 := fun _ _ => rfl
  have h2 : Ev (fun k => spec_GoodPair.l0 k [a, b] 2 2 [a, b] [c, d] ln) (ln.all (fun x => inB 0 1 x.f0)) := by
    refine ev_succ.1 ?_
    simp only [spec_GoodPair.l0, Int.lt_irrefl, if_false]
    exact spec_GoodPair_l1 ln [] h
  have h1 : Ev (fun k => spec_GoodPair.l0 k [a, b] 2 1 [a, b] [c, d] ln) (inB 0 2 b && inB 0 3 d && ((d == 0) == (b == 0)) && ln.all (fun x => inB 0 1 x.f0)) := by
    refine ev_succ.1 ?_
    simp only [spec_GoodPair.l0, l2, show ((1 : Int) < 2) = True from eq_true (by decide), show ((0 : Int) ≤ 1) = True from eq_true (by decide), show rd [a, b] 1 = b from rfl, show rd [c, d] 1 = d from rfl, show wrap64 (1 + 1) = 2 from (by unfold wrap64; omega), if_true, spec_l1In_eq, Option.bind_some, ev_ite, ev_some]
    generalize (d == 0) = p
    generalize (b == 0) = q
    cases inB 0 2 b <;> cases inB 0 3 d <;> cases p <;> cases q <;> simp <;> exact h2
  refine ev_succ.1 ?_
  simp only [spec_GoodPair.l0, l2, show ((0 : Int) < 2) = True from eq_true (by decide), show ((0 : Int) ≤ 0) = True from eq_true (by decide), show rd [a, b] 0 = a from rfl, show rd [c, d] 0 = c from rfl, show wrap64 (0 + 1) = 1 from (by unfold wrap64; omega), if_true, spec_l1In_eq, Option.bind_some, ev_ite, ev_some]
  generalize (c == 0) = p
  generalize (a == 0) = q
  cases inB 0 2 a <;> cases inB 0 3 c <;> cases p <;> cases q <;> simp <;> exact h1
theorem spec_GoodPair_ev (st lf : List Int) (ln : List S36) (h : ln.length ≤ 9223372036854775806) : Ev (fun k => spec_GoodPair.f k st lf ln) (goodP st lf ln) := by
  unfold spec_GoodPair.f
  have no : goodP st lf ln = false → Ev (fun k => spec_GoodPair.j0 k true st lf ln) (goodP st lf ln) := by
    intro g
    refine ev_succ.1 ?_
    simp only [spec_GoodPair.j0, if_true, ev_some]
    exact g.symm
  by_cases h1 : (st.length : Int) = 2
  · by_cases h2 : (lf.length : Int) = 2
    · obtain ⟨a, b, rfl⟩ := two_of_len h1
      obtain ⟨c, d, rfl⟩ := two_of_len h2
      simp only [h1, h2, if_true]
      refine ev_succ.1 ?_
      simp only [spec_GoodPair.j0, ev_ite, ev_some, decide_eq_true_eq]
      by_cases h3 : (ln.length : Int) > 12
      · rw [if_pos h3]
        simp [goodP, show ¬ (ln.length ≤ 12) by omega]
      · rw [if_neg h3]
        have := spec_GoodPair_l0 a b c d ln h
        simp only [goodP, show (ln.length ≤ 12) = True from eq_true (by omega), decide_true, Bool.true_and]
        exact this
    · simp only [h1, h2, if_true, if_false]; exact no (goodP_one (fun hh => by first | exact h1 hh.1 | exact h2 hh.2))
  · simp only [h1, if_false]; exact no (goodP_one (fun hh => by first | exact h1 hh.1 | exact h2 hh.2))

end Go.Proofs.Ytefdgdloghhnaaa.Pure
