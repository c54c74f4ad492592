/- What functions of the program answer, as plain functions: used by the laws of this claim. -/
import Derived.Test.YtnoklicihomfoaaB0
import Derived.Test.YtnoklicihomfoaaF16
import Derived.Test.YtnoklicihomfoaaB15
namespace Go.Proofs.Ytnoklicihomfoaa.Pure
open Go.RowKit Go.Proofs.Ytnoklicihomfoaa.P Go.Proofs.YtnoklicihomfoaaW.PrintWords Go.Proofs.Ytnoklicihomfoaa.Q
set_option linter.unusedVariables false
set_option linter.unusedSimpArgs false

theorem impl_groupsOf_ev (n : Nat) (l : List S84) (hw : Within n (ends l)) (hb : l.length ≤ 1000000000) (hn : n ≤ 1000000000) : Ev (fun k => impl_groupsOf.f k (n : Int) l) (groupsV n (ends l)) := by
  have hg := impl_groups_ev n (ends l) hw (by simpa [ends] using hb) hn
  have h : ∀ (t p : List S84), p ++ t = l → Ev (fun k => impl_groupsOf.l0 k (n : Int) (twos (ends p)) l (l.length : Int) (p.length : Int)) (groupsV n (ends l)) := by
    intro t
    induction t with
    | nil =>
      intro p e
      refine ev_succ.1 ?_
      have e1 : p = l := by rw [← e]; simp
      subst e1
      simp only [impl_groupsOf.l0, Int.lt_irrefl, if_false]
      simp only [ev_bind hg, ev_some]
    | cons x t ih =>
      intro p e
      have hb2 : (p ++ x :: t).length ≤ 1000000000 := by rw [e]; exact hb
      have hpl : p.length ≤ 1000000000 := by simp at hb2; omega
      refine ev_succ.1 ?_
      have e1 : ((p.length : Int) < (l.length : Int)) = True := by rw [← e]; exact c_lt _ _ _
      have e2 : rd_T84 l (p.length : Int) = x := by rw [← e]; exact rdE_at _ _ _
      have e3 : ((twos (ends p)).length < 5864062014805) = True := eq_true (by simp [twos, ends]; omega)
      simp only [impl_groupsOf.l0, e1, e2, e3, c_nn, if_true, c_next p x t (by omega)]
      have := ih (p ++ [x]) (by rw [← e]; simp)
      rw [show twos (ends (p ++ [x])) = twos (ends p) ++ [[x.f0, x.f1]] by simp [twos, ends]] at this
      exact this
  exact h l [] rfl

end Go.Proofs.Ytnoklicihomfoaa.Pure
