/- What functions of the program answer, as plain functions: used by the laws of this claim. -/
import Derived.Test.YtfkjnpgpofcinaaB0
import Derived.Test.YtfkjnpgpofcinaaF1
namespace Go.Proofs.Ytfkjnpgpofcinaa.Pure
open Go.RowKit Go.Proofs.Ytfkjnpgpofcinaa.P Go.Proofs.YtfkjnpgpofcinaaW.PrintWords Go.Proofs.Ytfkjnpgpofcinaa.Q
set_option linter.unusedVariables false
set_option linter.unusedSimpArgs false

theorem spec_l1In_eq (a b c : Int) : spec_l1In.f a b c = some (inB b c a) := by
  unfold spec_l1In.f inB
  by_cases h1 : a ≥ b <;> by_cases h2 : a ≤ c <;> simp [h1, h2] <;> omega

theorem impl_in_eq (a b c : Int) : impl_in.f a b c = some (inB b c a) := by
  unfold impl_in.f inB
  by_cases h1 : a ≥ b <;> by_cases h2 : a ≤ c <;> simp [h1, h2] <;> omega

theorem impl_allIn_loop (lo hi : Int) (t : List Int) : ∀ p : List Int, (p ++ t).length ≤ 9223372036854775806 → Ev (fun k => impl_allIn.l0 k lo hi (p ++ t) ((p ++ t).length : Int) (p.length : Int)) (allB lo hi t) := by
  induction t with
  | nil =>
    intro p _
    refine ev_succ.1 ?_
    simp only [impl_allIn.l0, c_end, Int.lt_irrefl, if_false, ev_some]
    simp [allB_nil]
  | cons x t ih =>
    intro p hb
    refine ev_succ.1 ?_
    have hn := ih (p ++ [x]) (by rwa [← c_app])
    simp only [impl_allIn.l0, c_lt, c_nn, c_rd, c_next _ _ _ hb, if_true, impl_in_eq, Option.bind_some, ev_ite, ev_some]
    rw [← c_app] at hn
    cases h1 : inB lo hi x
    · simp [h1, allB_cons]
    · simpa [h1, allB_cons] using hn
theorem impl_allIn_ev (lo hi : Int) (l : List Int) (h : l.length ≤ 9223372036854775806) : Ev (fun k => impl_allIn.f k l lo hi) (allB lo hi l) := impl_allIn_loop lo hi l [] h

end Go.Proofs.Ytfkjnpgpofcinaa.Pure
