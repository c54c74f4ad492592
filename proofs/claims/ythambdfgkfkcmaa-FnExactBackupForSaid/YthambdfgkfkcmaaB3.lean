/- What functions of the program answer, as plain functions: used by the laws of this claim. -/
import Derived.Test.YthambdfgkfkcmaaB0
import Derived.Test.YthambdfgkfkcmaaF3
import Derived.Test.YthambdfgkfkcmaaQFlow
import Derived.Test.YthambdfgkfkcmaaQGraph
namespace Go.Proofs.Ythambdfgkfkcmaa.Pure
open Go.RowKit Go.Proofs.Ythambdfgkfkcmaa.P Go.Proofs.YthambdfgkfkcmaaW.PrintWords Go.Proofs.Ythambdfgkfkcmaa.Q
set_option linter.unusedVariables false
set_option linter.unusedSimpArgs false

theorem spec_l1In_eq (a b c : Int) : spec_l1In.f a b c = some (inB b c a) := by
  unfold spec_l1In.f inB
  by_cases h1 : a ≥ b <;> by_cases h2 : a ≤ c <;> simp [h1, h2] <;> omega

theorem spec_GoodEdges_loop (n : Int) (t : List S47) : ∀ p : List S47, (p ++ t).length ≤ 9223372036854775806 → Ev (fun k => spec_GoodEdges.l0 k n (p ++ t) (p ++ t) ((p ++ t).length : Int) (p.length : Int)) (edgesB (wrap64 (n - 1)) (p.getLast?.map trip) (t.map trip) && (inB 1 12 n && decide ((p ++ t).length ≤ 40))) := by
  induction t with
  | nil =>
    intro p _
    refine ev_succ.1 ?_
    simp only [spec_GoodEdges.l0, c_end, Int.lt_irrefl, if_false, ev_some, spec_l1In_eq, Option.bind_some, ev_ite]
    have e : (decide (((p ++ []).length : Int) ≤ 40)) = decide ((p ++ []).length ≤ 40) := decide_eq_decide.2 (by omega)
    rw [e]
    simp only [List.map_nil, edgesB_nil, Bool.true_and]
    cases inB 1 12 n <;> simp
  | cons x t ih =>
    intro p hb
    refine ev_succ.1 ?_
    have hn := ih (p ++ [x]) (by rwa [← c_app])
    rw [← c_app] at hn
    simp only [List.getLast?_append, List.getLast?_singleton, Option.some_or, Option.map_some] at hn
    simp only [spec_GoodEdges.l0, c_lt, c_nn, rdE_at, if_true, spec_l1In_eq, Option.bind_some, ev_ite]
    have hj : ∀ b, Ev (fun k => spec_GoodEdges.j1 k n (p ++ x :: t) (p.length : Int) (p ++ x :: t) ((p ++ x :: t).length : Int) (p.length : Int) b x.f0 x.f1 x.f2) (!b && behindB (p.getLast?.map trip) (trip x) && (edgesB (wrap64 (n - 1)) (some (trip x)) (t.map trip) && (inB 1 12 n && decide ((p ++ x :: t).length ≤ 40)))) := by
      intro b
      refine ev_succ.1 ?_
      simp only [spec_GoodEdges.j1, c_next _ _ _ hb, ev_ite, ev_some]
      cases b
      · rcases List.eq_nil_or_concat p with rfl | ⟨q, y, rfl⟩
        · simpa [behindB] using hn
        · simp only [List.concat_eq_append] at *
          have e1 : wrap64 (((q ++ [y]).length : Int) - 1) = (q.length : Int) := by
            simp only [List.length_append, List.length_cons, List.length_nil] at hb ⊢
            unfold wrap64; omega
          have e2 : rd_T47 (q ++ [y] ++ x :: t) (q.length : Int) = y := by rw [← c_app]; exact rdE_at _ _ _
          have e3 : ((q.length : Int) < ((q ++ [y] ++ x :: t).length : Int)) = True := by rw [← c_app]; exact c_lt _ _ _
          have e4 : (((q ++ [y]).length : Int) > 0) = True := eq_true (by simp)
          simp only [e1, e2, e3, e4, c_nn, if_true, Bool.false_eq_true, if_false, List.getLast?_append, List.getLast?_singleton, Option.some_or, Option.map_some]
          by_cases h1 : y.f0 > x.f0
          · simp [h1, behindB, trip, show ¬ y.f0 < x.f0 by omega, show ¬ y.f0 = x.f0 by omega]
          · by_cases h2 : y.f0 = x.f0
            · by_cases h3 : y.f1 ≥ x.f1
              · simp [h2, h3, behindB, trip, show ¬ y.f1 < x.f1 by omega]
              · simp only [h1, h2, h3, if_true, if_false]
                simpa [h2, behindB, trip, show y.f1 < x.f1 by omega] using hn
            · simp only [h1, h2, if_false]
              simpa [h2, behindB, trip, show y.f0 < x.f0 by omega] using hn
      · simp
    have h0 := hj false
    have h1 := hj true
    have h2 := hj (!inB 1 100 x.f2)
    simp only [List.map_cons, edgesB_cons]
    simp only [trip] at h0 h1 h2 ⊢
    cases inB 0 (wrap64 (n - 1)) x.f0 <;> cases inB 0 (wrap64 (n - 1)) x.f1
    · simpa using h1
    · simpa using h1
    · simpa using h1
    · by_cases h3 : x.f0 ≥ x.f1
      · simp only [h3, if_true]; simpa [show ¬ x.f0 < x.f1 by omega] using h1
      · simp only [h3, if_true, if_false]
        simpa [show x.f0 < x.f1 by omega, Bool.and_assoc] using h2
theorem spec_GoodEdges_ev (n : Int) (l : List S47) (h : l.length ≤ 9223372036854775806) : Ev (fun k => spec_GoodEdges.f k n l) (goodE n (l.map trip)) := by
  unfold goodE spec_GoodEdges.f
  simpa using spec_GoodEdges_loop n l [] h

theorem spec_l15Number_loop (a b : Int) (t : List S47) : ∀ p : List S47, (p ++ t).length ≤ 9223372036854775806 → Ev (fun k => spec_l15Number.l0 k a b (p ++ t) ((p ++ t).length : Int) (p.length : Int)) (numFrom a b p.length (ends t)) := by
  induction t with
  | nil =>
    intro p _
    refine ev_succ.1 ?_
    simp only [spec_l15Number.l0, c_end, Int.lt_irrefl, if_false, ev_some]
    rfl
  | cons x t ih =>
    intro p hb
    refine ev_succ.1 ?_
    have hn := ih (p ++ [x]) (by rwa [← c_app])
    rw [← c_app] at hn
    simp only [List.length_append, List.length_cons, List.length_nil, Nat.zero_add] at hn
    simp only [spec_l15Number.l0, c_lt, c_nn, rdE_at, c_next p x t hb, if_true, ev_ite, ev_some, ends, List.map_cons, numFrom]
    rw [ite_two]
    by_cases h : (x.f0 = a ∧ x.f1 = b) ∨ (x.f0 = b ∧ x.f1 = a)
    · rw [if_pos h, if_pos h]
    · rw [if_neg h, if_neg h]
      simpa [ends] using hn
theorem spec_l15Number_ev (l : List S47) (a b : Int) (h : l.length ≤ 9223372036854775806) : Ev (fun k => spec_l15Number.f k l a b) (numFrom a b 0 (ends l)) := spec_l15Number_loop a b l [] h

theorem impl_in_eq (a b c : Int) : impl_in.f a b c = some (inB b c a) := by
  unfold impl_in.f inB
  by_cases h1 : a ≥ b <;> by_cases h2 : a ≤ c <;> simp [h1, h2] <;> omega


theorem impl_isSpots_eq (a : Int) : impl_isSpots.f a = some (inB 1 12 a) := by
  unfold impl_isSpots.f
  rw [impl_in_eq]; rfl

end Go.Proofs.Ythambdfgkfkcmaa.Pure
