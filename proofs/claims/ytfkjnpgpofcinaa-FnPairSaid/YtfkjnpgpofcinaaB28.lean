/- What functions of the program answer, as plain functions: used by the laws of this claim. -/
import Derived.Test.YtfkjnpgpofcinaaB0
import Derived.Test.YtfkjnpgpofcinaaF28
import Derived.Test.YtfkjnpgpofcinaaB20
namespace Go.Proofs.Ytfkjnpgpofcinaa.Pure
open Go.RowKit Go.Proofs.Ytfkjnpgpofcinaa.P Go.Proofs.YtfkjnpgpofcinaaW.PrintWords Go.Proofs.Ytfkjnpgpofcinaa.Q
set_option linter.unusedVariables false
set_option linter.unusedSimpArgs false

theorem laws_samePair_loop (a b : List Int) (t : List S45) : ∀ p : List S45, (p ++ t).length ≤ 9223372036854775806 → Ev (fun k => laws_samePair.l0 k ((p ++ t).length : Int) (p.length : Int) a b (p ++ t) a b (p ++ t)) true := by
  induction t with
  | nil =>
    intro p _
    refine ev_succ.1 ?_
    simp only [laws_samePair.l0, c_end, Int.lt_irrefl, if_false, ev_some]
  | cons x t ih =>
    intro p hb
    refine ev_succ.1 ?_
    simp only [laws_samePair.l0, c_lt, c_nn, beq_self_eq_true, Bool.not_true, Bool.or_self, Bool.false_eq_true, if_false, c_next _ _ _ hb, if_true]
    rw [c_app p x t]
    exact ih (p ++ [x]) (by rwa [← c_app])
theorem laws_samePair_ev (a b : List Int) (l : List S45) (ha : a.length ≤ 9223372036854775806) (hb : b.length ≤ 9223372036854775806) (h : l.length ≤ 9223372036854775806) : Ev (fun k => laws_samePair.f k a b l a b l) true := by
  unfold laws_samePair.f
  simp only [ev_bind (laws_sameInts_ev a ha), ev_bind (laws_sameInts_ev b hb), if_true, bne_self_eq_false]
  refine ev_succ.1 ?_
  simp only [laws_samePair.j0, Bool.false_eq_true, if_false]
  exact laws_samePair_loop a b l [] h

end Go.Proofs.Ytfkjnpgpofcinaa.Pure
