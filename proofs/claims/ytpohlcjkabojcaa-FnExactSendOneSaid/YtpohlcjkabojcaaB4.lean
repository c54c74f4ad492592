/- What functions of the program answer, as plain functions: used by the laws of this claim. -/
import Derived.Test.YtpohlcjkabojcaaB0
import Derived.Test.YtpohlcjkabojcaaF4
import Derived.Test.YtpohlcjkabojcaaB3
namespace Go.Proofs.Ytpohlcjkabojcaa.Pure
open Go.RowKit Go.Proofs.Ytpohlcjkabojcaa.P Go.Proofs.YtpohlcjkabojcaaW.PrintWords Go.Proofs.Ytpohlcjkabojcaa.Q
set_option linter.unusedVariables false
set_option linter.unusedSimpArgs false

theorem impl_byEnds_neg (m : Int) (hm : m ≤ 9223372036854775807) (y x : S86) (h : (inB 0 m y.f0 && inB 0 m y.f1 && inB 0 m x.f0 && inB 0 m x.f1) = true) : ∃ r, impl_byEnds.f y.f0 y.f1 y.f2 x.f0 x.f1 x.f2 = some r ∧ (r ≥ 0 ↔ ¬ (y.f0 < x.f0 ∨ (y.f0 = x.f0 ∧ y.f1 < x.f1))) := by
  simp only [Bool.and_eq_true, inB_iff] at h
  unfold impl_byEnds.f
  split
  · exact ⟨_, rfl, by rw [w64 (by omega) (by omega)]; omega⟩
  · exact ⟨_, rfl, by rw [w64 (by omega) (by omega)]; omega⟩
theorem impl_GoodEdges_loop (n : Int) (t : List S86) : ∀ p : List S86, (p ++ t).length ≤ 9223372036854775806 → (∀ y ∈ p, (inB 0 (wrap64 (n - 1)) y.f0 && inB 0 (wrap64 (n - 1)) y.f1) = true) → Ev (fun k => impl_GoodEdges.l0 k n (p ++ t) (p ++ t) ((p ++ t).length : Int) (p.length : Int)) (edgesB (wrap64 (n - 1)) (p.getLast?.map trip) (t.map trip) && (inB 1 12 n && decide ((p ++ t).length ≤ 40))) := by
  induction t with
  | nil =>
    intro p _ _
    refine ev_succ.1 ?_
    simp only [impl_GoodEdges.l0, c_end, Int.lt_irrefl, if_false, ev_some, impl_isSpots_eq, Option.bind_some, ev_ite]
    have e : (decide (((p ++ []).length : Int) ≤ 40)) = decide ((p ++ []).length ≤ 40) := decide_eq_decide.2 (by omega)
    rw [e]
    simp only [List.map_nil, edgesB_nil, Bool.true_and]
    cases inB 1 12 n <;> simp
  | cons x t ih =>
    intro p hb hp
    refine ev_succ.1 ?_
    simp only [impl_GoodEdges.l0, c_lt, c_nn, rdE_at, c_next _ _ _ hb, if_true, impl_in_eq, Option.bind_some, ev_ite, List.map_cons, edgesB_cons]
    cases h1 : inB 0 (wrap64 (n - 1)) x.f0
    · simp [ev_some, trip, h1]
    cases h2 : inB 0 (wrap64 (n - 1)) x.f1
    · simp [ev_some, trip, h2]
    by_cases h3 : x.f0 ≥ x.f1
    · simp [ev_some, trip, h3, show ¬ x.f0 < x.f1 by omega]
    cases h4 : inB 1 100 x.f2
    · simp [ev_some, trip, h3, h4]
    have hn := ih (p ++ [x]) (by rwa [← c_app]) (by
      intro y hy
      rcases List.mem_append.1 hy with hy | hy
      · exact hp y hy
      · rw [List.mem_singleton.1 hy, h1, h2]; rfl)
    rw [← c_app] at hn
    simp only [List.getLast?_append, List.getLast?_singleton, Option.some_or, Option.map_some] at hn
    simp only [h3, if_true, if_false]
    rcases List.eq_nil_or_concat p with rfl | ⟨q, y, rfl⟩
    · simpa [behindB, trip, h1, h2, h4, show x.f0 < x.f1 by omega] using hn
    · simp only [List.concat_eq_append] at *
      have e1 : wrap64 (((q ++ [y]).length : Int) - 1) = (q.length : Int) := by
        simp only [List.length_append, List.length_cons, List.length_nil] at hb ⊢
        unfold wrap64; omega
      have e2 : rd_T86 (q ++ [y] ++ x :: t) (q.length : Int) = y := by rw [← c_app]; exact rdE_at _ _ _
      have e3 : ((q.length : Int) < ((q ++ [y] ++ x :: t).length : Int)) = True := by rw [← c_app]; exact c_lt _ _ _
      have e4 : (((q ++ [y]).length : Int) > 0) = True := eq_true (by simp)
      obtain ⟨r, hr, hr2⟩ := impl_byEnds_neg (wrap64 (n - 1)) (by unfold wrap64; omega) y x (by rw [hp y (by simp), h1, h2]; rfl)
      simp only [e1, e2, e3, e4, c_nn, if_true, hr, Option.bind_some, List.getLast?_append, List.getLast?_singleton, Option.some_or, Option.map_some, ev_some]
      by_cases h5 : r ≥ 0
      · simp only [h5, if_true]
        have := hr2.1 h5
        simp [behindB, trip, this, ev_some]
      · simp only [h5, if_false]
        have : (y.f0 < x.f0 ∨ (y.f0 = x.f0 ∧ y.f1 < x.f1)) := Decidable.byContradiction fun hc => h5 (hr2.2 hc)
        simpa [behindB, trip, this, h1, h2, h4, show x.f0 < x.f1 by omega] using hn
theorem impl_GoodEdges_ev (n : Int) (l : List S86) (h : l.length ≤ 9223372036854775806) : Ev (fun k => impl_GoodEdges.f k n l) (goodE n (l.map trip)) := by
  unfold goodE impl_GoodEdges.f
  simpa using impl_GoodEdges_loop n l [] h (by simp)

theorem impl_rising_loop (t : List Int) : ∀ (p : List Int) (y : Int), (p ++ y :: t).length ≤ 9223372036854775806 → Ev (fun k => impl_rising.l0 k (p ++ y :: t) ((p ++ [y]).length : Int)) (chainB (some y) t) := by
  induction t with
  | nil =>
    intro p y _
    refine ev_succ.1 ?_
    simp only [impl_rising.l0, Int.lt_irrefl, if_false, ev_some]
    simp [chainB_nil]
  | cons x t ih =>
    intro p y hb
    refine ev_succ.1 ?_
    have hn := ih (p ++ [y]) x (by rwa [← c_app])
    have e1 : wrap64 (((p ++ [y]).length : Int) - 1) = (p.length : Int) := by
      simp only [List.length_append, List.length_cons, List.length_nil] at hb ⊢
      unfold wrap64; omega
    have e0 : p ++ y :: x :: t = (p ++ [y]) ++ x :: t := c_app _ _ _
    have e2 : rd (p ++ y :: x :: t) (p.length : Int) = y := c_rd _ _ _
    have e3 : ((p.length : Int) < ((p ++ y :: x :: t).length : Int)) = True := c_lt _ _ _
    have e4 : (((p ++ [y]).length : Int) < ((p ++ y :: x :: t).length : Int)) = True := by rw [e0]; exact c_lt _ _ _
    have e5 : rd (p ++ y :: x :: t) ((p ++ [y]).length : Int) = x := by rw [e0]; exact c_rd _ _ _
    have e6 := c_next (p ++ [y]) x t (by rwa [← e0])
    simp only [impl_rising.l0, e1, e2, e3, e4, e5, e6, c_nn, if_true, ev_ite, ev_some]
    by_cases h2 : y ≥ x
    · simp [h2, chainB_some, show ¬ y < x by omega]
    · simp only [h2, if_false]
      rw [e0]
      simpa [chainB_some, show y < x by omega] using hn
theorem impl_rising_ev (l : List Int) (h : l.length ≤ 9223372036854775806) : Ev (fun k => impl_rising.f k l) (chainB none l) := by
  unfold impl_rising.f
  cases l with
  | nil => refine ev_succ.1 ?_; simp [impl_rising.l0, ev_some, chainB_nil]
  | cons y t => simpa [chainB_none] using impl_rising_loop t [] y h

theorem impl_allIn_loop (lo hi : Int) (t : List Int) : ∀ p : List Int, (p ++ t).length ≤ 9223372036854775806 → Ev (fun k => impl_allIn.l0 k lo hi (p ++ t) ((p ++ t).length : Int) (p.length : Int)) (allB lo hi t) := by
  induction t with
  | nil =>
    intro p _
    refine ev_succ.1 ?_
    simp only [impl_allIn.l0, c_end, Int.lt_irrefl, if_false, ev_some]
    simp [allB_nil]
  | cons x t ih =>
    intro p hb
    refine ev_succ.1 ?_
    have hn := ih (p ++ [x]) (by rwa [← c_app])
    simp only [impl_allIn.l0, c_lt, c_nn, c_rd, c_next _ _ _ hb, if_true, impl_in_eq, Option.bind_some, ev_ite, ev_some]
    rw [← c_app] at hn
    cases h1 : inB lo hi x
    · simp [h1, allB_cons]
    · simpa [h1, allB_cons] using hn
theorem impl_allIn_ev (lo hi : Int) (l : List Int) (h : l.length ≤ 9223372036854775806) : Ev (fun k => impl_allIn.f k l lo hi) (allB lo hi l) := impl_allIn_loop lo hi l [] h

theorem impl_goodCut_ev (n : Int) (l : List S86) (cut : List Int) (h : l.length ≤ 1000000000) (hc : cut.length ≤ 1000000000) : Ev (fun k => impl_goodCut.f k n l cut) (goodE n (l.map trip) && (allB 0 ((l.length : Int) - 1) cut && chainB none cut)) := by
  unfold impl_goodCut.f
  simp only [ev_bind (impl_GoodEdges_ev n l (by omega)), ev_bind (impl_rising_ev cut (by omega)), ev_bind (impl_allIn_ev 0 ((l.length : Int) - 1) cut (by omega)), ev_ite, ev_some, w64 (n := (l.length : Int) - 1) (by omega) (by omega)]
  cases goodE n (l.map trip) <;> cases chainB none cut <;> simp

theorem impl_isHost_eq (a : Int) : impl_isHost.f a = some (inB 1 99 a) := by
  unfold impl_isHost.f
  rw [impl_in_eq]; rfl

end Go.Proofs.Ytpohlcjkabojcaa.Pure
