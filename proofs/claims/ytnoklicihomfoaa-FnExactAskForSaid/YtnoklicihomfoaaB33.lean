/- What functions of the program answer, as plain functions: used by the laws of this claim. -/
import Derived.Test.YtnoklicihomfoaaB0
import Derived.Test.YtnoklicihomfoaaF33
import Derived.Test.YtnoklicihomfoaaB4
import Derived.Test.YtnoklicihomfoaaB32
namespace Go.Proofs.Ytnoklicihomfoaa.Pure
open Go.RowKit Go.Proofs.Ytnoklicihomfoaa.P Go.Proofs.YtnoklicihomfoaaW.PrintWords Go.Proofs.Ytnoklicihomfoaa.Q
set_option linter.unusedVariables false
set_option linter.unusedSimpArgs false

theorem impl_GoodSummary_ev (lo hi : Int) (l : List S104) (h : l.length ≤ 9223372036854775806) : Ev (fun k => impl_GoodSummary.f k lo hi l) (goodS lo hi (l.map hpr)) := by
  have hl : ∀ (t p : List S104), p ++ t = l → Ev (fun k => impl_GoodSummary.l0 k l (l.length : Int) (p.length : Int) lo hi l) ((t.map hpr).all (fun x => inB lo hi x.1)) := by
    intro t
    induction t with
    | nil =>
      intro p e
      refine ev_succ.1 ?_
      have e1 : p = l := by rw [← e]; simp
      subst e1
      simp only [impl_GoodSummary.l0, Int.lt_irrefl, if_false, ev_some]
      simp
    | cons x t ih =>
      intro p e
      refine ev_succ.1 ?_
      have hb2 : (p ++ x :: t).length ≤ 9223372036854775806 := by rw [e]; exact h
      have e1 : ((p.length : Int) < (l.length : Int)) = True := by rw [← e]; exact c_lt _ _ _
      have e2 : rd_T104 l (p.length : Int) = x := by rw [← e]; exact rdHave_at _ _ _
      simp only [impl_GoodSummary.l0, e1, e2, c_nn, if_true, impl_in_eq, Option.bind_some, c_next p x t hb2, ev_ite, ev_some]
      have := ih (p ++ [x]) (by rw [← e]; simp)
      cases h1 : inB lo hi x.f0
      · simp [hpr, h1]
      · simpa [hpr, h1] using this
  have hl0 := hl l [] rfl
  have ht : Ev (fun k => impl_GoodSummary.j0 k true lo hi l) false := by
    refine ev_succ.1 ?_
    simp only [impl_GoodSummary.j0, if_true]
    exact Ev.now _
  have hf : Ev (fun k => impl_GoodSummary.j0 k false lo hi l) ((l.map hpr).all (fun x => inB lo hi x.1)) := by
    refine ev_succ.1 ?_
    simp only [impl_GoodSummary.j0, Bool.false_eq_true, if_false]
    exact hl0
  unfold impl_GoodSummary.f goodS
  simp only [ev_bind (impl_GoodHaves_ev l h), ev_ite]
  cases goodH (l.map hpr)
  · simpa using ht
  by_cases h1 : lo < 1
  · simpa [h1, show ¬ (1 : Int) ≤ lo by omega] using ht
  by_cases h2 : hi > 1000
  · simpa [h1, h2, show ¬ hi ≤ (1000 : Int) by omega] using ht
  by_cases h3 : lo > hi
  · simpa [h1, h2, h3, show ¬ lo ≤ hi by omega] using ht
  · simpa [h1, h2, h3, show (1 : Int) ≤ lo by omega, show hi ≤ (1000 : Int) by omega, show lo ≤ hi by omega] using hf

theorem impl_seqFor_loop (n : Int) (t : List S104) : ∀ p : List S104, (p ++ t).length ≤ 9223372036854775806 → Ev (fun k => impl_seqFor.l0 k n (p ++ t) ((p ++ t).length : Int) (p.length : Int)) (seqV (t.map hpr) n) := by
  induction t with
  | nil =>
    intro p _
    refine ev_succ.1 ?_
    simp only [impl_seqFor.l0, c_end, Int.lt_irrefl, if_false, ev_some]
    rfl
  | cons x t ih =>
    intro p hb
    refine ev_succ.1 ?_
    have hn := ih (p ++ [x]) (by rwa [← c_app])
    rw [← c_app] at hn
    simp only [impl_seqFor.l0, c_lt, c_nn, rdHave_at, c_next p x t hb, if_true, ev_ite, ev_some, List.map_cons, seqV]
    by_cases h : x.f0 = n
    · simp [h, hpr]
    · simpa [h, hpr] using hn
theorem impl_seqFor_ev (l : List S104) (n : Int) (h : l.length ≤ 9223372036854775806) : Ev (fun k => impl_seqFor.f k l n) (seqV (l.map hpr) n) := impl_seqFor_loop n l [] h

end Go.Proofs.Ytnoklicihomfoaa.Pure
