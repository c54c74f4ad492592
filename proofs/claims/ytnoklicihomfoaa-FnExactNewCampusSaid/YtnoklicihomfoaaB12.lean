/- What functions of the program answer, as plain functions: used by the laws of this claim. -/
import Derived.Test.YtnoklicihomfoaaB0
import Derived.Test.YtnoklicihomfoaaF12
namespace Go.Proofs.Ytnoklicihomfoaa.Pure
open Go.RowKit Go.Proofs.Ytnoklicihomfoaa.P Go.Proofs.YtnoklicihomfoaaW.PrintWords Go.Proofs.Ytnoklicihomfoaa.Q
set_option linter.unusedVariables false
set_option linter.unusedSimpArgs false

theorem laws_markIntS_loop (t : List Int) : ∀ (q : List Int) (a : Int), (q ++ t).length ≤ 9223372036854775806 → 0 ≤ a → a + t.length ≤ 9223372036854775807 → Ev (fun k => laws_markIntS.l0 k (q ++ t) a (q.length : Int)) (a + t.length, q ++ marks t.length a) := by
  induction t with
  | nil =>
    intro q a _ _ _
    refine ev_succ.1 ?_
    simp only [laws_markIntS.l0, c_end, Int.lt_irrefl, if_false, ev_some]
    simp [marks]
  | cons x t ih =>
    intro q a hb h0 h1
    refine ev_succ.1 ?_
    simp only [List.length_cons] at h1
    simp only [laws_markIntS.l0, c_lt, c_nn, c_set, c_next _ _ _ hb, if_true]
    rw [w64 (n := a + 1) (by omega) (by omega), show ((q ++ [x]).length : Int) = ((q ++ [a]).length : Int) by simp]
    have := ih (q ++ [a]) (a + 1) (by simpa using hb) (by omega) (by omega)
    rw [show a + ((x :: t).length : Int) = a + 1 + (t.length : Int) by simp; omega, show q ++ marks (x :: t).length a = (q ++ [a]) ++ marks t.length (a + 1) by simp [marks]]
    exact this
theorem laws_markIntS_ev (l : List Int) (a : Int) (h : l.length ≤ 9223372036854775806) (h0 : 0 ≤ a) (h1 : a + l.length ≤ 9223372036854775807) : Ev (fun k => laws_markIntS.f k l a) (a + l.length, marks l.length a) := laws_markIntS_loop l [] a h h0 h1

end Go.Proofs.Ytnoklicihomfoaa.Pure
