/- What functions of the program answer, as plain functions: used by the laws of this claim. -/
import Derived.Test.YtenedmcobknefaaB0
import Derived.Test.YtenedmcobknefaaF7
import Derived.Test.YtenedmcobknefaaB4
import Derived.Test.YtenedmcobknefaaB5
import Derived.Test.YtenedmcobknefaaB6
namespace Go.Proofs.Ytenedmcobknefaa.Pure
open Go.RowKit Go.Proofs.Ytenedmcobknefaa.P Go.Proofs.YtenedmcobknefaaW.PrintWords Go.Proofs.Ytenedmcobknefaa.Q
set_option linter.unusedVariables false
set_option linter.unusedSimpArgs false

theorem impl_Learn_ev (room : Int) (l : List S27) (x : S27) (h : l.length ≤ 1000000) : Ev (fun k => impl_Learn.f k room l x.f0 x.f1 x.f2) (learnedV room l x) := by
  unfold impl_Learn.f learnedV
  simp only [ev_bind (impl_GoodTable_ev room l h), ev_ite]
  by_cases h1 : goodT room l = true
  · have hr := ((goodT_iff room l).1 h1).1
    simp only [if_pos h1, impl_isSeen_eq, Option.bind_some, ev_ite]
    by_cases h2 : seen3 x.f0 x.f1 x.f2 = true
    · simp only [if_pos h2]
      cases l with
      | nil =>
        simp only [List.length_nil, show (((0 : Nat) : Int) > 0) = False from eq_false (by omega), if_false, headB, if_true, ev_bind (impl_Table_learn_ev room [] x h hr)]
        exact Ev.now _
      | cons y t =>
        have hd : rd_T27 (y :: t) 0 = y := by simp [rd_T27]
        simp only [hd, show (((y :: t).length : Int) > 0) = True from eq_true (by rw [List.length_cons]; omega), show (0 < ((y :: t).length : Int)) = True from eq_true (by rw [List.length_cons]; omega), if_true, headB, decide_eq_true_eq]
        by_cases h3 : y.f2 > x.f2
        · simp only [if_pos h3, show (y.f2 ≤ x.f2) = False from eq_false (by omega), if_false, ev_some]
        · simp only [if_neg h3, show (y.f2 ≤ x.f2) = True from eq_true (by omega), if_true, ev_bind (impl_Table_learn_ev room (y :: t) x h hr)]
          exact Ev.now _
    · simp only [if_neg h2, ev_some]
  · simp only [if_neg h1, ev_some]

end Go.Proofs.Ytenedmcobknefaa.Pure
