/- What functions of the program answer, as plain functions: used by the laws of this claim. -/
import Derived.Test.YtnoklicihomfoaaB0
import Derived.Test.YtnoklicihomfoaaF2
import Derived.Test.YtnoklicihomfoaaB1
import Derived.Test.YtnoklicihomfoaaB3
namespace Go.Proofs.Ytnoklicihomfoaa.Pure
open Go.RowKit Go.Proofs.Ytnoklicihomfoaa.P Go.Proofs.YtnoklicihomfoaaW.PrintWords Go.Proofs.Ytnoklicihomfoaa.Q
set_option linter.unusedVariables false
set_option linter.unusedSimpArgs false

theorem impl_byEnds_neg (m : Int) (hm : m ≤ 9223372036854775807) (y x : S84) (h : (inB 0 m y.f0 && inB 0 m y.f1 && inB 0 m x.f0 && inB 0 m x.f1) = true) : ∃ r, impl_byEnds.f y.f0 y.f1 y.f2 x.f0 x.f1 x.f2 = some r ∧ (r ≥ 0 ↔ ¬ (y.f0 < x.f0 ∨ (y.f0 = x.f0 ∧ y.f1 < x.f1))) := by
  simp only [Bool.and_eq_true, inB_iff] at h
  unfold impl_byEnds.f
  split
  · exact ⟨_, rfl, by rw [w64 (by omega) (by omega)]; omega⟩
  · exact ⟨_, rfl, by rw [w64 (by omega) (by omega)]; omega⟩
theorem impl_GoodEdges_loop (n : Int) (t : List S84) : ∀ p : List S84, (p ++ t).length ≤ 9223372036854775806 → (∀ y ∈ p, (inB 0 (wrap64 (n - 1)) y.f0 && inB 0 (wrap64 (n - 1)) y.f1) = true) → Ev (fun k => impl_GoodEdges.l0 k n (p ++ t) (p ++ t) ((p ++ t).length : Int) (p.length : Int)) (edgesB (wrap64 (n - 1)) (p.getLast?.map trip) (t.map trip) && (inB 1 12 n && decide ((p ++ t).length ≤ 40))) := by
  induction t with
  | nil =>
    intro p _ _
    refine ev_succ.1 ?_
    simp only [impl_GoodEdges.l0, c_end, Int.lt_irrefl, if_false, ev_some, impl_isSpots_eq, Option.bind_some, ev_ite]
    have e : (decide (((p ++ []).length : Int) ≤ 40)) = decide ((p ++ []).length ≤ 40) := decide_eq_decide.2 (by omega)
    rw [e]
    simp only [List.map_nil, edgesB_nil, Bool.true_and]
    cases inB 1 12 n <;> simp
  | cons x t ih =>
    intro p hb hp
    refine ev_succ.1 ?_
    simp only [impl_GoodEdges.l0, c_lt, c_nn, rdE_at, c_next _ _ _ hb, if_true, impl_in_eq, Option.bind_some, ev_ite, List.map_cons, edgesB_cons]
    cases h1 : inB 0 (wrap64 (n - 1)) x.f0
    · simp [ev_some, trip, h1]
    cases h2 : inB 0 (wrap64 (n - 1)) x.f1
    · simp [ev_some, trip, h2]
    by_cases h3 : x.f0 ≥ x.f1
    · simp [ev_some, trip, h3, show ¬ x.f0 < x.f1 by omega]
    cases h4 : inB 1 100 x.f2
    · simp [ev_some, trip, h3, h4]
    have hn := ih (p ++ [x]) (by rwa [← c_app]) (by
      intro y hy
      rcases List.mem_append.1 hy with hy | hy
      · exact hp y hy
      · rw [List.mem_singleton.1 hy, h1, h2]; rfl)
    rw [← c_app] at hn
    simp only [List.getLast?_append, List.getLast?_singleton, Option.some_or, Option.map_some] at hn
    simp only [h3, if_true, if_false]
    rcases List.eq_nil_or_concat p with rfl | ⟨q, y, rfl⟩
    · simpa [behindB, trip, h1, h2, h4, show x.f0 < x.f1 by omega] using hn
    · simp only [List.concat_eq_append] at *
      have e1 : wrap64 (((q ++ [y]).length : Int) - 1) = (q.length : Int) := by
        simp only [List.length_append, List.length_cons, List.length_nil] at hb ⊢
        unfold wrap64; omega
      have e2 : rd_T84 (q ++ [y] ++ x :: t) (q.length : Int) = y := by rw [← c_app]; exact rdE_at _ _ _
      have e3 : ((q.length : Int) < ((q ++ [y] ++ x :: t).length : Int)) = True := by rw [← c_app]; exact c_lt _ _ _
      have e4 : (((q ++ [y]).length : Int) > 0) = True := eq_true (by simp)
      obtain ⟨r, hr, hr2⟩ := impl_byEnds_neg (wrap64 (n - 1)) (by unfold wrap64; omega) y x (by rw [hp y (by simp), h1, h2]; rfl)
      simp only [e1, e2, e3, e4, c_nn, if_true, hr, Option.bind_some, List.getLast?_append, List.getLast?_singleton, Option.some_or, Option.map_some, ev_some]
      by_cases h5 : r ≥ 0
      · simp only [h5, if_true]
        have := hr2.1 h5
        simp [behindB, trip, this, ev_some]
      · simp only [h5, if_false]
        have : (y.f0 < x.f0 ∨ (y.f0 = x.f0 ∧ y.f1 < x.f1)) := Decidable.byContradiction fun hc => h5 (hr2.2 hc)
        simpa [behindB, trip, this, h1, h2, h4, show x.f0 < x.f1 by omega] using hn
theorem impl_GoodEdges_ev (n : Int) (l : List S84) (h : l.length ≤ 9223372036854775806) : Ev (fun k => impl_GoodEdges.f k n l) (goodE n (l.map trip)) := by
  unfold goodE impl_GoodEdges.f
  simpa using impl_GoodEdges_loop n l [] h (by simp)


theorem laws_eqEdgeS_loop (t : List S84) : ∀ p : List S84, (p ++ t).length ≤ 9223372036854775806 → Ev (fun k => laws_eqEdgeS.l0 k (p ++ t) (p ++ t) (p.length : Int)) true := by
  induction t with
  | nil =>
    intro p _
    refine ev_succ.1 ?_
    simp only [laws_eqEdgeS.l0, c_end, Int.lt_irrefl, if_false, ev_some]
  | cons x t ih =>
    intro p hb
    refine ev_succ.1 ?_
    simp only [laws_eqEdgeS.l0, laws_eqEdge.f, Option.bind_some, c_lt, c_nn, c_next _ _ _ hb, if_true]
    rw [c_app p x t]
    exact ih (p ++ [x]) (by rwa [← c_app])
theorem laws_eqEdgeS_ev (l : List S84) (h : l.length ≤ 9223372036854775806) : Ev (fun k => laws_eqEdgeS.f k l l) true := by
  unfold laws_eqEdgeS.f
  simp only [if_true]
  exact laws_eqEdgeS_loop l [] h

end Go.Proofs.Ytnoklicihomfoaa.Pure
