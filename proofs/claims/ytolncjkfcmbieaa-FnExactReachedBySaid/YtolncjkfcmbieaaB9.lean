/- What functions of the program answer, as plain functions: used by the laws of this claim. -/
import Derived.Test.YtolncjkfcmbieaaB0
import Derived.Test.YtolncjkfcmbieaaF9
namespace Go.Proofs.Ytolncjkfcmbieaa.Pure
open Go.RowKit Go.Proofs.Ytolncjkfcmbieaa.P Go.Proofs.YtolncjkfcmbieaaW.PrintWords Go.Proofs.Ytolncjkfcmbieaa.Q
set_option linter.unusedVariables false
set_option linter.unusedSimpArgs false

theorem spec_l1In_eq (a b c : Int) : spec_l1In.f a b c = some (inB b c a) := by
  unfold spec_l1In.f inB
  by_cases h1 : a ≥ b <;> by_cases h2 : a ≤ c <;> simp [h1, h2] <;> omega

theorem impl_in_eq (a b c : Int) : impl_in.f a b c = some (inB b c a) := by
  unfold impl_in.f inB
  by_cases h1 : a ≥ b <;> by_cases h2 : a ≤ c <;> simp [h1, h2] <;> omega

theorem laws_eqIntS_loop (t : List Int) : ∀ p : List Int, (p ++ t).length ≤ 9223372036854775806 → Ev (fun k => laws_eqIntS.l0 k (p ++ t) (p ++ t) (p.length : Int)) true := by
  induction t with
  | nil =>
    intro p _
    refine ev_succ.1 ?_
    simp only [laws_eqIntS.l0, c_end, Int.lt_irrefl, if_false, ev_some]
  | cons x t ih =>
    intro p hb
    refine ev_succ.1 ?_
    simp only [laws_eqIntS.l0, c_lt, c_nn, c_next _ _ _ hb, if_true]
    rw [c_app p x t]
    exact ih (p ++ [x]) (by rwa [← c_app])
theorem laws_eqIntS_ev (l : List Int) (h : l.length ≤ 9223372036854775806) : Ev (fun k => laws_eqIntS.f k l l) true := by
  unfold laws_eqIntS.f
  simp only [if_true]
  exact laws_eqIntS_loop l [] h

theorem laws_markIntS_loop (t : List Int) : ∀ (q : List Int) (a : Int), (q ++ t).length ≤ 9223372036854775806 → 0 ≤ a → a + t.length ≤ 9223372036854775807 → Ev (fun k => laws_markIntS.l0 k (q ++ t) a (q.length : Int)) (a + t.length, q ++ marks t.length a) := by
  induction t with
  | nil =>
    intro q a _ _ _
    refine ev_succ.1 ?_
    simp only [laws_markIntS.l0, c_end, Int.lt_irrefl, if_false, ev_some]
    simp [marks]
  | cons x t ih =>
    intro q a hb h0 h1
    refine ev_succ.1 ?_
    simp only [List.length_cons] at h1
    simp only [laws_markIntS.l0, c_lt, c_nn, c_set, c_next _ _ _ hb, if_true]
    rw [w64 (n := a + 1) (by omega) (by omega), show ((q ++ [x]).length : Int) = ((q ++ [a]).length : Int) by simp]
    have := ih (q ++ [a]) (a + 1) (by simpa using hb) (by omega) (by omega)
    rw [show a + ((x :: t).length : Int) = a + 1 + (t.length : Int) by simp; omega, show q ++ marks (x :: t).length a = (q ++ [a]) ++ marks t.length (a + 1) by simp [marks]]
    exact this
theorem laws_markIntS_ev (l : List Int) (a : Int) (h : l.length ≤ 9223372036854775806) (h0 : 0 ≤ a) (h1 : a + l.length ≤ 9223372036854775807) : Ev (fun k => laws_markIntS.f k l a) (a + l.length, marks l.length a) := laws_markIntS_loop l [] a h h0 h1

end Go.Proofs.Ytolncjkfcmbieaa.Pure
