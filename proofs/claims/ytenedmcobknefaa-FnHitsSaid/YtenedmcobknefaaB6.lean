/- What functions of the program answer, as plain functions: used by the laws of this claim. -/
import Derived.Test.YtenedmcobknefaaB0
import Derived.Test.YtenedmcobknefaaF6
import Derived.Test.YtenedmcobknefaaB5
namespace Go.Proofs.Ytenedmcobknefaa.Pure
open Go.RowKit Go.Proofs.Ytenedmcobknefaa.P Go.Proofs.YtenedmcobknefaaW.PrintWords Go.Proofs.Ytenedmcobknefaa.Q
set_option linter.unusedVariables false
set_option linter.unusedSimpArgs false

theorem impl_Table_learn_ev (room : Int) (l : List S27) (x : S27) (h : l.length ≤ 1000000) (hr : 1 ≤ room) : Ev (fun k => impl_Table_learn.f k room l x.f0 x.f1 x.f2) (room, learnV room l x) := by
  have hl := List.length_filter_le (fun s : S27 => s.f0 != x.f0) l
  unfold impl_Table_learn.f
  refine (ev_bind (impl_Table_kept_ev room l (fun a _ _ => a != x.f0) h)).2 ?_
  simp only [Option.bind_some, etaSeen]
  generalize hF : l.filter (fun s => s.f0 != x.f0) = F at hl
  have e : learnV room l x = x :: F.take (room - 1).toNat := by unfold learnV; rw [hF]
  rw [e]
  have hc : ([x] : List S27).length + F.length < 5864062014805 := by simp; omega
  rw [if_pos hc]
  unfold mn
  simp only [List.length_append, List.length_cons, List.length_nil, List.cons_append, List.nil_append]
  by_cases h2 : room < ((F.length + 1 : Nat) : Int)
  · simp only [if_pos h2, show (0 ≤ room) = True from eq_true (by omega), show (room ≤ ((F.length + 1 : Nat) : Int)) = True from eq_true (by omega), if_true]
    obtain ⟨m, rfl⟩ : ∃ m : Nat, room = (m : Int) + 1 := ⟨(room - 1).toNat, by omega⟩
    rw [show ((m : Int) + 1).toNat = m + 1 by omega, show ((m : Int) + 1 - 1).toNat = m by omega, List.take_succ_cons]
    exact Ev.now _
  · simp only [if_neg h2, show (0 ≤ ((F.length + 1 : Nat) : Int)) = True from eq_true (by omega), Int.le_refl, if_true]
    rw [show (((F.length + 1 : Nat) : Int)).toNat = F.length + 1 by omega, List.take_succ_cons, List.take_of_length_le (Nat.le_refl _), List.take_of_length_le (show F.length ≤ (room - 1).toNat by omega)]
    exact Ev.now _

end Go.Proofs.Ytenedmcobknefaa.Pure
