/- What functions of the program answer, as plain functions: used by the laws of this claim. -/
import Derived.Test.YtnoklicihomfoaaB0
import Derived.Test.YtnoklicihomfoaaF6
namespace Go.Proofs.Ytnoklicihomfoaa.Pure
open Go.RowKit Go.Proofs.Ytnoklicihomfoaa.P Go.Proofs.YtnoklicihomfoaaW.PrintWords Go.Proofs.Ytnoklicihomfoaa.Q
set_option linter.unusedVariables false
set_option linter.unusedSimpArgs false

theorem spec_l1Has_loop (x1 : Int) (t : List Int) : ∀ p : List Int, (p ++ t).length ≤ 9223372036854775806 → Ev (fun k => spec_l1Has.l0 k x1 (p ++ t) ((p ++ t).length : Int) (p.length : Int)) (hasB x1 t) := by
  induction t with
  | nil =>
    intro p _
    refine ev_succ.1 ?_
    simp only [spec_l1Has.l0, c_end, Int.lt_irrefl, if_false, ev_some]
    rfl
  | cons x t ih =>
    intro p hb
    refine ev_succ.1 ?_
    have hn := ih (p ++ [x]) (by rwa [← c_app])
    rw [← c_app] at hn
    simp only [spec_l1Has.l0, c_lt, c_nn, c_rd, c_next p x t hb, if_true, ev_ite, ev_some]
    by_cases h : x = x1
    · simp [h, hasB]
    · simpa [h, hasB, show ¬ x1 = x from fun h2 => h h2.symm] using hn
theorem spec_l1Has_ev (l : List Int) (x : Int) (h : l.length ≤ 9223372036854775806) : Ev (fun k => spec_l1Has.f k l x) (hasB x l) := spec_l1Has_loop x l [] h

end Go.Proofs.Ytnoklicihomfoaa.Pure
