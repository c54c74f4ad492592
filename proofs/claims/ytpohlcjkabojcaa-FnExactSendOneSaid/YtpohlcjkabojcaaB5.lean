/- What functions of the program answer, as plain functions: used by the laws of this claim. -/
import Derived.Test.YtpohlcjkabojcaaB0
import Derived.Test.YtpohlcjkabojcaaF5
import Derived.Test.YtpohlcjkabojcaaB3
import Derived.Test.YtpohlcjkabojcaaB4
import Derived.Test.YtpohlcjkabojcaaQHaves
namespace Go.Proofs.Ytpohlcjkabojcaa.Pure
open Go.RowKit Go.Proofs.Ytpohlcjkabojcaa.P Go.Proofs.YtpohlcjkabojcaaW.PrintWords Go.Proofs.Ytpohlcjkabojcaa.Q
set_option linter.unusedVariables false
set_option linter.unusedSimpArgs false

theorem impl_GoodCampus_loop (n : Int) (l : List S86) (d : List Int) (t : List S130) : ∀ p : List S130, (p ++ t).length ≤ 1000000000 → (∀ x ∈ t, x.f2.length ≤ 1000000000) → Ev (fun k => impl_GoodCampus.l0 k (p ++ t) ((p ++ t).length : Int) (p.length : Int) n l d (p ++ t)) (placesB (wrap64 (n - 1)) (p.getLast?.map fun q => q.f0) (t.map pl3)) := by
  induction t with
  | nil =>
    intro p hb _
    refine ev_succ.1 ?_
    simp only [impl_GoodCampus.l0, c_end, Int.lt_irrefl, if_false, ev_some]
    rfl
  | cons x t ih =>
    intro p hb hx
    refine ev_succ.1 ?_
    have hn := ih (p ++ [x]) (by rwa [← c_app]) (fun y hy => hx y (by simp [hy]))
    rw [← c_app] at hn
    simp only [List.getLast?_append, List.getLast?_singleton, Option.some_or, Option.map_some] at hn
    have hgl : x.f2.length ≤ 1000000000 := hx x (by simp)
    simp only [impl_GoodCampus.l0, c_lt, c_nn, rdPlace_at, c_next p x t (by omega), if_true, impl_isHost_eq, impl_in_eq, Option.bind_some, ev_bind (impl_rising_ev x.f2 (by omega)), ev_bind (impl_allIn_ev 1 20 x.f2 (by omega)), ev_ite, ev_some, List.map_cons, placesB_cons, pl3]
    cases h1 : inB 1 99 x.f0
    · simp
    have hrest : ∀ b : Bool, (b = true → Ev (fun k => impl_GoodCampus.l0 k (p ++ x :: t) ((p ++ x :: t).length : Int) ((p ++ [x]).length : Int) n l d (p ++ x :: t)) (placesB (wrap64 (n - 1)) (some x.f0) (t.map pl3))) → (if inB 0 (wrap64 (n - 1)) x.f1 = true then (if chainB none x.f2 = true then (if allB 1 20 x.f2 = true then Ev (fun k => impl_GoodCampus.l0 k (p ++ x :: t) ((p ++ x :: t).length : Int) ((p ++ [x]).length : Int) n l d (p ++ x :: t)) ((inB 0 (wrap64 (n - 1)) x.f1 && (allB 1 20 x.f2 && chainB none x.f2)) && b && placesB (wrap64 (n - 1)) (some x.f0) (t.map pl3)) else false = ((inB 0 (wrap64 (n - 1)) x.f1 && (allB 1 20 x.f2 && chainB none x.f2)) && b && placesB (wrap64 (n - 1)) (some x.f0) (t.map pl3))) else false = ((inB 0 (wrap64 (n - 1)) x.f1 && (allB 1 20 x.f2 && chainB none x.f2)) && b && placesB (wrap64 (n - 1)) (some x.f0) (t.map pl3))) else false = ((inB 0 (wrap64 (n - 1)) x.f1 && (allB 1 20 x.f2 && chainB none x.f2)) && b && placesB (wrap64 (n - 1)) (some x.f0) (t.map pl3))) ∨ b = false := by
      intro b hb1
      cases b
      · exact .inr rfl
      · left
        cases inB 0 (wrap64 (n - 1)) x.f1 <;> cases chainB none x.f2 <;> cases allB 1 20 x.f2 <;> simp
        simpa using hb1 rfl
    simp only [if_true, Bool.true_and]
    rcases List.eq_nil_or_concat p with rfl | ⟨q, y, rfl⟩
    · rcases hrest true (fun _ => hn) with h | h
      · simpa using h
      · cases h
    · simp only [List.concat_eq_append] at *
      have e1 : wrap64 (((q ++ [y]).length : Int) - 1) = (q.length : Int) := by
        simp only [List.length_append, List.length_cons, List.length_nil] at hb ⊢
        unfold wrap64; omega
      have e2 : rd_T130 (q ++ [y] ++ x :: t) (q.length : Int) = y := by rw [← c_app]; exact rdPlace_at _ _ _
      have e3 : ((q.length : Int) < ((q ++ [y] ++ x :: t).length : Int)) = True := by rw [← c_app]; exact c_lt _ _ _
      have e4 : (((q ++ [y]).length : Int) > 0) = True := eq_true (by simp)
      simp only [e1, e2, e3, e4, c_nn, if_true, ev_some, List.getLast?_append, List.getLast?_singleton, Option.some_or, Option.map_some, behind1_some]
      by_cases h3 : y.f0 ≥ x.f0
      · simp [h3, ev_some, show ¬ y.f0 < x.f0 by omega]
      · simp only [h3, if_false, decide_eq_true (show y.f0 < x.f0 by omega)]
        rcases hrest true (fun _ => hn) with h | h
        · simpa using h
        · cases h
theorem impl_GoodCampus_ev (n : Int) (l : List S86) (d : List Int) (h : List S130) (hl : l.length ≤ 1000000000) (hd : d.length ≤ 1000000000) (hh : plSize h ≤ 1000000000) : Ev (fun k => impl_GoodCampus.f k n l d h) (goodC n (l.map trip) d (h.map pl3)) := by
  have h2 := plSize_mem h _ hh
  have ht : Ev (fun k => impl_GoodCampus.j0 k true n l d h) false := by
    refine ev_succ.1 ?_
    simp only [impl_GoodCampus.j0, if_true]
    exact Ev.now _
  have hf : Ev (fun k => impl_GoodCampus.j0 k false n l d h) (placesB (wrap64 (n - 1)) none (h.map pl3)) := by
    refine ev_succ.1 ?_
    simp only [impl_GoodCampus.j0, Bool.false_eq_true, if_false]
    have := impl_GoodCampus_loop n l d h [] (by simpa using h2.1) h2.2
    simpa using this
  unfold impl_GoodCampus.f goodC
  simp only [ev_bind (impl_goodCut_ev n l d hl hd), ev_ite, List.length_map]
  by_cases h12 : h.length ≤ 12
  · have e : decide ((h.length : Int) > 12) = false := decide_eq_false (by omega)
    rw [e]
    cases goodE n (l.map trip) <;> cases allB 0 ((l.length : Int) - 1) d <;> cases chainB none d <;> simp [h12] <;> first | exact ht | exact hf
  · have e : decide ((h.length : Int) > 12) = true := decide_eq_true (by omega)
    rw [e]
    cases goodE n (l.map trip) <;> cases allB 0 ((l.length : Int) - 1) d <;> cases chainB none d <;> simp [h12] <;> exact ht

end Go.Proofs.Ytpohlcjkabojcaa.Pure
