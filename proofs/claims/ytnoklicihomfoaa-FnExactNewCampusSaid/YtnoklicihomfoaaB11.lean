/- What functions of the program answer, as plain functions: used by the laws of this claim. -/
import Derived.Test.YtnoklicihomfoaaB0
import Derived.Test.YtnoklicihomfoaaF11
namespace Go.Proofs.Ytnoklicihomfoaa.Pure
open Go.RowKit Go.Proofs.Ytnoklicihomfoaa.P Go.Proofs.YtnoklicihomfoaaW.PrintWords Go.Proofs.Ytnoklicihomfoaa.Q
set_option linter.unusedVariables false
set_option linter.unusedSimpArgs false

theorem laws_markEdgeS_loop (t : List S84) : ∀ (q : List S84) (a : Int), (q ++ t).length ≤ 9223372036854775806 → 0 ≤ a → a + 3 * t.length ≤ 9223372036854775807 → Ev (fun k => laws_markEdgeS.l0 k (q ++ t) a (q.length : Int)) (a + 3 * t.length, q ++ marksE t.length a) := by
  induction t with
  | nil =>
    intro q a _ _ _
    refine ev_succ.1 ?_
    simp only [laws_markEdgeS.l0, c_end, Int.lt_irrefl, if_false, ev_some]
    simp [marksE]
  | cons x t ih =>
    intro q a hb h0 h1
    refine ev_succ.1 ?_
    simp only [List.length_cons] at h1
    simp only [laws_markEdgeS.l0, c_lt, c_nn, rdE_at, c_set, ← c_app, Option.bind_some, c_next _ _ _ hb, if_true]
    rw [w64 (n := a + 1) (by omega) (by omega), w64 (n := a + 1 + 1) (by omega) (by omega), w64 (n := a + 1 + 1 + 1) (by omega) (by omega), show ((q ++ [x]).length : Int) = ((q ++ [(⟨a, a + 1, a + 2⟩ : S84)]).length : Int) by simp]
    have := ih (q ++ [⟨a, a + 1, a + 2⟩]) (a + 3) (by simpa using hb) (by omega) (by omega)
    rw [show a + 3 * ((x :: t).length : Int) = a + 3 + 3 * (t.length : Int) by simp; omega, show q ++ marksE (x :: t).length a = (q ++ [⟨a, a + 1, a + 2⟩]) ++ marksE t.length (a + 3) by simp [marksE]]
    rw [show a + 1 + 1 = a + 2 by omega, show a + 2 + 1 = a + 3 by omega]
    rw [← c_app] at this
    exact this
theorem laws_markEdgeS_ev (l : List S84) (a : Int) (h : l.length ≤ 9223372036854775806) (h0 : 0 ≤ a) (h1 : a + 3 * l.length ≤ 9223372036854775807) : Ev (fun k => laws_markEdgeS.f k l a) (a + 3 * l.length, marksE l.length a) := laws_markEdgeS_loop l [] a h h0 h1

end Go.Proofs.Ytnoklicihomfoaa.Pure
