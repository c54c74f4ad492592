/- What functions of the program answer, as plain functions: used by the laws of this claim. -/
import Derived.Test.YtenedmcobknefaaB0
import Derived.Test.YtenedmcobknefaaF9
import Derived.Test.YtenedmcobknefaaB1
import Derived.Test.YtenedmcobknefaaB4
import Derived.Test.YtenedmcobknefaaB5
import Derived.Test.YtenedmcobknefaaB8
namespace Go.Proofs.Ytenedmcobknefaa.Pure
open Go.RowKit Go.Proofs.Ytenedmcobknefaa.P Go.Proofs.YtenedmcobknefaaW.PrintWords Go.Proofs.Ytenedmcobknefaa.Q
set_option linter.unusedVariables false
set_option linter.unusedSimpArgs false

theorem spec_Learn_ev (room : Int) (l : List S27) (x : S27) (h : l.length ≤ 1000000) : Ev (fun k => spec_Learn.f k room l x.f0 x.f1 x.f2) (learnedV room l x) := by
  unfold spec_Learn.f learnedV
  simp only [ev_bind (spec_GoodTable_ev room l h), ev_ite]
  by_cases h1 : goodT room l = true
  · simp only [if_pos h1, spec_l13Row_eq, Option.bind_some, ev_ite]
    by_cases h2 : seen3 x.f0 x.f1 x.f2 = true
    · simp only [if_pos h2]
      cases l with
      | nil =>
        simp only [List.length_nil, show (((0 : Nat) : Int) > 0) = False from eq_false (by omega), if_false, headB, if_true, ev_bind (spec_l13Learn_ev room [] x h)]
        exact Ev.now _
      | cons y t =>
        have hd : rd_T27 (y :: t) 0 = y := by simp [rd_T27]
        simp only [hd, show (((y :: t).length : Int) > 0) = True from eq_true (by rw [List.length_cons]; omega), show (0 < ((y :: t).length : Int)) = True from eq_true (by rw [List.length_cons]; omega), if_true, headB, decide_eq_true_eq]
        by_cases h3 : x.f2 < y.f2
        · simp only [if_pos h3, show (y.f2 ≤ x.f2) = False from eq_false (by omega), if_false, ev_some]
        · simp only [if_neg h3, show (y.f2 ≤ x.f2) = True from eq_true (by omega), if_true, ev_bind (spec_l13Learn_ev room (y :: t) x h)]
          exact Ev.now _
    · simp only [if_neg h2, ev_some]
  · simp only [if_neg h1, ev_some]

theorem laws_sameTable_loop (r : Int) (t : List S27) : ∀ p : List S27, (p ++ t).length ≤ 1000000 → Ev (fun k => laws_sameTable.l0 k ((p ++ t).length : Int) (p.length : Int) r (p ++ t) r (p ++ t)) true := by
  induction t with
  | nil =>
    intro p _
    refine ev_succ.1 ?_
    simp only [laws_sameTable.l0, c_end, List.append_nil, Int.lt_irrefl, if_false, ev_some]
  | cons y t ih =>
    intro p hb
    refine ev_succ.1 ?_
    have hi := ih (p ++ [y]) (by rwa [← c_app])
    rw [← c_app] at hi
    simp only [laws_sameTable.l0, c_lt, c_nn, rdSeen_at, c_next p y t (by omega), if_true, beq_self_eq_true, Bool.not_true, Bool.or_false, Bool.false_eq_true, if_false]
    exact hi
theorem laws_sameTable_ev (r : Int) (l : List S27) (h : l.length ≤ 1000000) : Ev (fun k => laws_sameTable.f k r l r l) true := by
  unfold laws_sameTable.f
  simp only [if_true]
  refine ev_succ.1 ?_
  simp only [laws_sameTable.j0, bne_self_eq_false, Bool.false_eq_true, if_false]
  exact laws_sameTable_loop r l [] (by simpa using h)

theorem impl_PortOf_ev (room : Int) (l : List S27) (a : Int) (h : l.length ≤ 1000000) : Ev (fun k => impl_PortOf.f k room l a) (portV room l a) := by
  have hf := findV_le (fun s : S27 => s.f0 == a) l 0
  unfold impl_PortOf.f portV
  simp only [ev_bind (impl_GoodTable_ev room l h), ev_ite, ev_bind (impl_row_ev l a h), ev_some]
  by_cases h1 : goodT room l = true
  · simp only [if_pos h1]
    by_cases h2 : findV (fun s => s.f0 == a) 0 l < 0
    · simp only [if_pos h2]
    · simp only [if_neg h2, show (0 ≤ findV (fun s => s.f0 == a) 0 l) = True from eq_true (by omega), show (findV (fun s => s.f0 == a) 0 l < (l.length : Int)) = True from eq_true (by omega), if_true]
  · simp only [if_neg h1]

theorem impl_FlushPort_ev (room : Int) (l : List S27) (a : Int) (h : l.length ≤ 1000000) : Ev (fun k => impl_FlushPort.f k room l a) (flushV room l a) := by
  unfold impl_FlushPort.f flushV
  simp only [ev_bind (impl_GoodTable_ev room l h), ev_ite, impl_in_eq, Option.bind_some]
  by_cases h1 : goodT room l = true
  · simp only [if_pos h1]
    by_cases h2 : inB 0 9 a = true
    · simp only [if_pos h2]
      refine (ev_bind (impl_Table_kept_ev room l (fun _ y _ => y != a) h)).2 ?_
      exact Ev.now _
    · simp only [if_neg h2, ev_some]
  · simp only [if_neg h1, ev_some]

end Go.Proofs.Ytenedmcobknefaa.Pure
