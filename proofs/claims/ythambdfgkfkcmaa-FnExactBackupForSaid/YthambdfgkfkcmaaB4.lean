/- What functions of the program answer, as plain functions: used by the laws of this claim. -/
import Derived.Test.YthambdfgkfkcmaaB0
import Derived.Test.YthambdfgkfkcmaaF4
import Derived.Test.YthambdfgkfkcmaaB3
import Derived.Test.YthambdfgkfkcmaaQFlow
namespace Go.Proofs.Ythambdfgkfkcmaa.Pure
open Go.RowKit Go.Proofs.Ythambdfgkfkcmaa.P Go.Proofs.YthambdfgkfkcmaaW.PrintWords Go.Proofs.Ythambdfgkfkcmaa.Q
set_option linter.unusedVariables false
set_option linter.unusedSimpArgs false

theorem impl_byEnds_neg (m : Int) (hm : m ≤ 9223372036854775807) (y x : S47) (h : (inB 0 m y.f0 && inB 0 m y.f1 && inB 0 m x.f0 && inB 0 m x.f1) = true) : ∃ r, impl_byEnds.f y.f0 y.f1 y.f2 x.f0 x.f1 x.f2 = some r ∧ (r ≥ 0 ↔ ¬ (y.f0 < x.f0 ∨ (y.f0 = x.f0 ∧ y.f1 < x.f1))) := by
  simp only [Bool.and_eq_true, inB_iff] at h
  unfold impl_byEnds.f
  split
  · exact ⟨_, rfl, by rw [w64 (by omega) (by omega)]; omega⟩
  · exact ⟨_, rfl, by rw [w64 (by omega) (by omega)]; omega⟩
theorem impl_GoodEdges_loop (n : Int) (t : List S47) : ∀ p : List S47, (p ++ t).length ≤ 9223372036854775806 → (∀ y ∈ p, (inB 0 (wrap64 (n - 1)) y.f0 && inB 0 (wrap64 (n - 1)) y.f1) = true) → Ev (fun k => impl_GoodEdges.l0 k n (p ++ t) (p ++ t) ((p ++ t).length : Int) (p.length : Int)) (edgesB (wrap64 (n - 1)) (p.getLast?.map trip) (t.map trip) && (inB 1 12 n && decide ((p ++ t).length ≤ 40))) := by
  induction t with
  | nil =>
    intro p _ _
    refine ev_succ.1 ?_
    simp only [impl_GoodEdges.l0, c_end, Int.lt_irrefl, if_false, ev_some, impl_isSpots_eq, Option.bind_some, ev_ite]
    have e : (decide (((p ++ []).length : Int) ≤ 40)) = decide ((p ++ []).length ≤ 40) := decide_eq_decide.2 (by omega)
    rw [e]
    simp only [List.map_nil, edgesB_nil, Bool.true_and]
    cases inB 1 12 n <;> simp
  | cons x t ih =>
    intro p hb hp
    refine ev_succ.1 ?_
    simp only [impl_GoodEdges.l0, c_lt, c_nn, rdE_at, c_next _ _ _ hb, if_true, impl_in_eq, Option.bind_some, ev_ite, List.map_cons, edgesB_cons]
    cases h1 : inB 0 (wrap64 (n - 1)) x.f0
    · simp [ev_some, trip, h1]
    cases h2 : inB 0 (wrap64 (n - 1)) x.f1
    · simp [ev_some, trip, h2]
    by_cases h3 : x.f0 ≥ x.f1
    · simp [ev_some, trip, h3, show ¬ x.f0 < x.f1 by omega]
    cases h4 : inB 1 100 x.f2
    · simp [ev_some, trip, h3, h4]
    have hn := ih (p ++ [x]) (by rwa [← c_app]) (by
      intro y hy
      rcases List.mem_append.1 hy with hy | hy
      · exact hp y hy
      · rw [List.mem_singleton.1 hy, h1, h2]; rfl)
    rw [← c_app] at hn
    simp only [List.getLast?_append, List.getLast?_singleton, Option.some_or, Option.map_some] at hn
    simp only [h3, if_true, if_false]
    rcases List.eq_nil_or_concat p with rfl | ⟨q, y, rfl⟩
    · simpa [behindB, trip, h1, h2, h4, show x.f0 < x.f1 by omega] using hn
    · simp only [List.concat_eq_append] at *
      have e1 : wrap64 (((q ++ [y]).length : Int) - 1) = (q.length : Int) := by
        simp only [List.length_append, List.length_cons, List.length_nil] at hb ⊢
        unfold wrap64; omega
      have e2 : rd_T47 (q ++ [y] ++ x :: t) (q.length : Int) = y := by rw [← c_app]; exact rdE_at _ _ _
      have e3 : ((q.length : Int) < ((q ++ [y] ++ x :: t).length : Int)) = True := by rw [← c_app]; exact c_lt _ _ _
      have e4 : (((q ++ [y]).length : Int) > 0) = True := eq_true (by simp)
      obtain ⟨r, hr, hr2⟩ := impl_byEnds_neg (wrap64 (n - 1)) (by unfold wrap64; omega) y x (by rw [hp y (by simp), h1, h2]; rfl)
      simp only [e1, e2, e3, e4, c_nn, if_true, hr, Option.bind_some, List.getLast?_append, List.getLast?_singleton, Option.some_or, Option.map_some, ev_some]
      by_cases h5 : r ≥ 0
      · simp only [h5, if_true]
        have := hr2.1 h5
        simp [behindB, trip, this, ev_some]
      · simp only [h5, if_false]
        have : (y.f0 < x.f0 ∨ (y.f0 = x.f0 ∧ y.f1 < x.f1)) := Decidable.byContradiction fun hc => h5 (hr2.2 hc)
        simpa [behindB, trip, this, h1, h2, h4, show x.f0 < x.f1 by omega] using hn
theorem impl_GoodEdges_ev (n : Int) (l : List S47) (h : l.length ≤ 9223372036854775806) : Ev (fun k => impl_GoodEdges.f k n l) (goodE n (l.map trip)) := by
  unfold goodE impl_GoodEdges.f
  simpa using impl_GoodEdges_loop n l [] h (by simp)

theorem impl_allIn_loop (lo hi : Int) (t : List Int) : ∀ p : List Int, (p ++ t).length ≤ 9223372036854775806 → Ev (fun k => impl_allIn.l0 k lo hi (p ++ t) ((p ++ t).length : Int) (p.length : Int)) (allB lo hi t) := by
  induction t with
  | nil =>
    intro p _
    refine ev_succ.1 ?_
    simp only [impl_allIn.l0, c_end, Int.lt_irrefl, if_false, ev_some]
    simp [allB_nil]
  | cons x t ih =>
    intro p hb
    refine ev_succ.1 ?_
    have hn := ih (p ++ [x]) (by rwa [← c_app])
    simp only [impl_allIn.l0, c_lt, c_nn, c_rd, c_next _ _ _ hb, if_true, impl_in_eq, Option.bind_some, ev_ite, ev_some]
    rw [← c_app] at hn
    cases h1 : inB lo hi x
    · simp [h1, allB_cons]
    · simpa [h1, allB_cons] using hn
theorem impl_allIn_ev (lo hi : Int) (l : List Int) (h : l.length ≤ 9223372036854775806) : Ev (fun k => impl_allIn.f k l lo hi) (allB lo hi l) := impl_allIn_loop lo hi l [] h

theorem impl_goodAt_ev (n : Int) (l : List S47) (at_ : List Int) (h : l.length ≤ 9223372036854775806) (h2 : at_.length ≤ 9223372036854775806) : Ev (fun k => impl_goodAt.f k n l at_) (goodE n (l.map trip) && allB 0 (wrap64 (n - 1)) at_) := by
  unfold impl_goodAt.f
  simp only [ev_bind (impl_GoodEdges_ev n l h), ev_bind (impl_allIn_ev 0 (wrap64 (n - 1)) at_ h2), ev_ite, ev_some]
  cases goodE n (l.map trip) <;> simp

theorem impl_flow_edge_loop (x y s : Int) (L : List S47) (u : List Int) (t : List S47) : ∀ p : List S47, (p ++ t).length ≤ 9223372036854775806 → Ev (fun k => impl_flow_edge.l0 k x y (p ++ t) ((p ++ t).length : Int) (p.length : Int) s L u) ((edgeFrom x y p.length (ends t)).1, (edgeFrom x y p.length (ends t)).2, s) := by
  induction t with
  | nil =>
    intro p _
    refine ev_succ.1 ?_
    simp only [impl_flow_edge.l0, c_end, Int.lt_irrefl, if_false, ev_some]
    rfl
  | cons e t ih =>
    intro p hb
    have hn := ih (p ++ [e]) (by rwa [← c_app])
    rw [← c_app] at hn
    simp only [List.length_append, List.length_cons, List.length_nil, Nat.zero_add] at hn
    have hw : wrap64 ((p.length : Int) + 1) = ((p.length + 1 : Nat) : Int) := by rw [c_next p e t hb]; simp
    have hj : ∀ b : Bool, b = decide (e.f0 = x ∧ e.f1 = y) → Ev (fun k => impl_flow_edge.j1 k x y (p.length : Int) (p ++ e :: t) ((p ++ e :: t).length : Int) (p.length : Int) b s L u e.f0 e.f1 e.f2) ((edgeFrom x y p.length (ends (e :: t))).1, (edgeFrom x y p.length (ends (e :: t))).2, s) := by
      intro b hbb
      subst hbb
      refine ev_succ.1 ?_
      simp only [ends, List.map_cons, edgeFrom, impl_flow_edge.j1, decide_eq_true_eq, hw]
      by_cases h1 : e.f0 = x ∧ e.f1 = y
      · simp only [if_pos h1, ev_some]
      · simp only [if_neg h1]
        by_cases h2 : e.f0 = y ∧ e.f1 = x
        · have h3 := h2.1
          have h4 := h2.2
          simp only [if_pos h2, if_pos h3, if_pos h4, ev_some]
        · simp only [if_neg h2]
          by_cases h3 : e.f0 = y
          · have h4 : ¬ e.f1 = x := fun e4 => h2 ⟨h3, e4⟩
            simp only [if_pos h3, if_neg h4]
            simpa [ends] using hn
          · simp only [if_neg h3]
            simpa [ends] using hn
    refine ev_succ.1 ?_
    simp only [impl_flow_edge.l0, c_lt, c_nn, rdE_at, if_true, ev_ite]
    by_cases h0 : e.f0 = x
    · rw [if_pos h0]
      exact hj _ (by simp [h0]; by_cases h1 : e.f1 = y <;> simp [h1])
    · rw [if_neg h0]
      exact hj _ (by simp [h0])
theorem impl_flow_edge_ev (s : Int) (l : List S47) (u : List Int) (x y : Int) (h : l.length ≤ 9223372036854775806) : Ev (fun k => impl_flow_edge.f k s l u x y) ((edgeFrom x y 0 (ends l)).1, (edgeFrom x y 0 (ends l)).2, s) := impl_flow_edge_loop x y s l u l [] h

theorem impl_flow_open_ev (s : Int) (l : List S47) (u : List Int) (x y : Int) (hxy : x ≠ y) (hl : l.length ≤ 1000000) (hu : u.length = (ends l).length) : Ev (fun k => impl_flow_open.f k s l u x y) (openB (ends l) u x y, s) := by
  unfold impl_flow_open.f openB
  simp only [ev_bind (impl_flow_edge_ev s l u x y (by omega))]
  rcases edgeFrom_cases hxy (ends l) 0 with e | ⟨j, hj, e⟩
  · simp only [e, show ((-1 : Int) ≥ 0) = False from eq_false (by omega), if_false, ev_some]
    simp
  · have key : ∀ d : Int, edgeFrom x y 0 (ends l) = ((j : Int), d) → Ev (fun k => if (edgeFrom x y 0 (ends l)).1 ≥ 0 then (if 0 ≤ (edgeFrom x y 0 (ends l)).1 then (if (edgeFrom x y 0 (ends l)).1 < (u.length : Int) then (some (((rd u (edgeFrom x y 0 (ends l)).1) != (edgeFrom x y 0 (ends l)).2), s)) else (none)) else (none)) else (some (false, s))) (decide (0 ≤ (edgeFrom x y 0 (ends l)).1) && decide (rd u (edgeFrom x y 0 (ends l)).1 ≠ (edgeFrom x y 0 (ends l)).2), s) := by
      intro d e
      simp only [e, show ((j : Int) ≥ 0) = True from eq_true (by omega), show (0 ≤ (j : Int)) = True from eq_true (by omega), show ((j : Int) < (u.length : Int)) = True from eq_true (by omega), if_true, ev_some, decide_true, Bool.true_and]
      congr 1
      by_cases h : rd u (j : Int) = d <;> simp [h]
    rcases e with ⟨e, _⟩ | ⟨e, _⟩ <;> rw [Nat.zero_add] at e <;> exact key _ e

end Go.Proofs.Ythambdfgkfkcmaa.Pure
