/- What functions of the program answer, as plain functions: used by the laws of this claim. -/
import Derived.Test.YtfkjnpgpofcinaaB0
import Derived.Test.YtfkjnpgpofcinaaF11
import Derived.Test.YtfkjnpgpofcinaaB1
import Derived.Test.YtfkjnpgpofcinaaB2
import Derived.Test.YtfkjnpgpofcinaaB3
import Derived.Test.YtfkjnpgpofcinaaB10
import Derived.Test.YtfkjnpgpofcinaaQTree
namespace Go.Proofs.Ytfkjnpgpofcinaa.Pure
open Go.RowKit Go.Proofs.Ytfkjnpgpofcinaa.P Go.Proofs.YtfkjnpgpofcinaaW.PrintWords Go.Proofs.Ytfkjnpgpofcinaa.Q
set_option linter.unusedVariables false
set_option linter.unusedSimpArgs false

theorem spec_JoinSpot_ev (l : List Int) (n : Int) (h : l.length ≤ 2097152) : Ev (fun k => spec_JoinSpot.f k l n) (if (allB 0 11 l && chainB none l) && inB 0 11 n then (putV l n, true) else ([], false)) := by
  have hl := putV_length n l
  unfold spec_JoinSpot.f
  simp only [ev_bind (spec_l14Wants_ev l (by omega)), spec_l1In_eq, Option.bind_some, ev_bind (spec_l1Put_ev l n (by omega)), List.nil_append, List.length_nil, Nat.zero_add, show ((putV l n).length < 17592186044416) = True from eq_true (by omega), if_true, ev_ite, ev_some]
  cases allB 0 11 l <;> cases chainB none l <;> cases inB 0 11 n <;> rfl

theorem impl_left_loop (n : Int) (t : List Int) : ∀ (p o : List Int), (p ++ t).length ≤ 17592186044415 → o.length ≤ p.length → Ev (fun k => impl_left.l0 k n o (p ++ t) ((p ++ t).length : Int) (p.length : Int)) (o ++ t.filter (fun x => decide (x ≠ n))) := by
  induction t with
  | nil =>
    intro p o _ _
    refine ev_succ.1 ?_
    simp only [impl_left.l0, c_end, Int.lt_irrefl, if_false, ev_some]
    simp
  | cons x t ih =>
    intro p o hb ho
    refine ev_succ.1 ?_
    simp only [impl_left.l0, c_lt, c_nn, c_rd, c_next p x t (by omega), if_true, ev_ite]
    by_cases h1 : x = n
    · simp only [h1, if_true]
      have := ih (p ++ [x]) o (by rwa [← c_app]) (by simp; omega)
      rw [← c_app] at this
      simpa [h1] using this
    · have hl : (o.length < 17592186044416) = True := eq_true (by simp at hb; omega)
      simp only [h1, hl, if_true, if_false]
      have := ih (p ++ [x]) (o ++ [x]) (by rwa [← c_app]) (by simp; omega)
      rw [← c_app] at this
      simpa [h1] using this
theorem impl_left_ev (l : List Int) (n : Int) (h : l.length ≤ 17592186044415) : Ev (fun k => impl_left.f k l n) (l.filter (fun x => decide (x ≠ n))) := impl_left_loop n l [] [] h (by simp)

theorem impl_LeaveSpot_ev (l : List Int) (n : Int) (h : l.length ≤ 17592186044415) : Ev (fun k => impl_LeaveSpot.f k l n) (if (allB 0 11 l && chainB none l) && inB 0 11 n then (l.filter (fun x => decide (x ≠ n)), true) else ([], false)) := by
  unfold impl_LeaveSpot.f
  simp only [ev_bind (impl_goodWants_ev l (by omega)), impl_isSpot_eq, Option.bind_some, ev_bind (impl_left_ev l n h), ev_ite, ev_some]
  cases allB 0 11 l <;> cases chainB none l <;> cases inB 0 11 n <;> rfl

theorem spec_LeaveSpot_loop (n : Int) (t : List Int) : ∀ (p o : List Int), (p ++ t).length ≤ 17592186044415 → o.length ≤ p.length → Ev (fun k => spec_LeaveSpot.l0 k n o (p ++ t) ((p ++ t).length : Int) (p.length : Int)) (o ++ t.filter (fun x => decide (x ≠ n)), true) := by
  induction t with
  | nil =>
    intro p o _ _
    refine ev_succ.1 ?_
    simp only [spec_LeaveSpot.l0, c_end, Int.lt_irrefl, if_false, ev_some]
    simp
  | cons x t ih =>
    intro p o hb ho
    refine ev_succ.1 ?_
    simp only [spec_LeaveSpot.l0, c_lt, c_nn, c_rd, c_next p x t (by omega), if_true, ev_ite]
    by_cases h1 : x = n
    · simp only [h1, if_true]
      have := ih (p ++ [x]) o (by rwa [← c_app]) (by simp; omega)
      rw [← c_app] at this
      simpa [h1] using this
    · have hl : (o.length < 17592186044416) = True := eq_true (by simp at hb; omega)
      simp only [h1, hl, if_true, if_false]
      have := ih (p ++ [x]) (o ++ [x]) (by rwa [← c_app]) (by simp; omega)
      rw [← c_app] at this
      simpa [h1] using this
theorem spec_LeaveSpot_ev (l : List Int) (n : Int) (h : l.length ≤ 17592186044415) : Ev (fun k => spec_LeaveSpot.f k l n) (if (allB 0 11 l && chainB none l) && inB 0 11 n then (l.filter (fun x => decide (x ≠ n)), true) else ([], false)) := by
  unfold spec_LeaveSpot.f
  simp only [ev_bind (spec_l14Wants_ev l (by omega)), spec_l1In_eq, Option.bind_some, ev_ite]
  have hj : ∀ b, Ev (fun k => spec_LeaveSpot.j0 k l n b) (if b = true then ([], false) else (l.filter (fun x => decide (x ≠ n)), true)) := by
    intro b
    refine ev_succ.1 ?_
    simp only [spec_LeaveSpot.j0, ev_ite, ev_some]
    cases b
    · simpa using spec_LeaveSpot_loop n l [] [] h (by simp)
    · simp
  have h0 := hj false
  have h1 := hj true
  simp only [Bool.false_eq_true, if_false, if_true] at h0 h1
  cases allB 0 11 l <;> cases chainB none l <;> cases inB 0 11 n <;> first | exact h0 | exact h1

end Go.Proofs.Ytfkjnpgpofcinaa.Pure
