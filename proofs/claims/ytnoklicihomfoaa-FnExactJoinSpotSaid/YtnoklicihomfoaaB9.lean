/- The plain statement behind the law FnExactJoinSpot: for all arguments it answers true. -/
import Derived.Test.YtnoklicihomfoaaB0
import Derived.Test.YtnoklicihomfoaaF9
import Derived.Test.YtnoklicihomfoaaB7
import Derived.Test.YtnoklicihomfoaaB8
import Derived.Test.YtnoklicihomfoaaQTree
namespace Go.Proofs.Ytnoklicihomfoaa.Pure
open Go.RowKit Go.Proofs.Ytnoklicihomfoaa.P Go.Proofs.YtnoklicihomfoaaW.PrintWords Go.Proofs.Ytnoklicihomfoaa.Q
set_option linter.unusedVariables false
set_option linter.unusedSimpArgs false

theorem FnExactJoinSpot (l : List Int) (a : Int) (hG : l.length ≤ maxLen ∧ ∀ y ∈ l, (Lit.int .i64 y).wf = true) (ha : (Lit.int .i64 a).wf = true) : ∃ k, laws_FnExactJoinSpot.f k l a = some true := by

  refine Ev.rounds ?_
  unfold laws_FnExactJoinSpot.f
  by_cases hbig : (l.length : Int) > 1048576
  · simp only [hbig, if_true]; exact Ev.now _
  have hs : l.length ≤ 1048576 := by omega
  have hv1 : (if (allB 0 11 l && chainB none l) && inB 0 11 a then (putV l a, true) else ([], false)).1.length ≤ 1048577 := by
    split
    · have := putV_length a l; simp only; omega
    · simp
  simp only [hbig, if_false, ev_bind (laws_toIntS_ev l (by omega)), ev_bind (spec_JoinSpot_ev l a (by omega)), ev_bind (impl_JoinSpot_ev l a (by omega))]
  have hi := impl_JoinSpot_ev l a (by omega)
  generalize (if (allB 0 11 l && chainB none l) && inB 0 11 a then (putV l a, true) else ([], false)) = v at hv1 hi ⊢
  obtain ⟨r1, r2⟩ := v
  simp only at hv1
  simp only [ev_bind (laws_eqIntS_ev r1 (by omega)), if_true, bne_self_eq_false]
  refine ev_succ.1 ?_
  simp only [laws_FnExactJoinSpot.j0, Bool.false_eq_true, if_false, if_true, bne_self_eq_false, ev_bind (laws_toIntS_ev l (by omega)), ev_bind (laws_eqIntS_ev l (by omega)), ev_bind (laws_eqIntS_ev r1 (by omega)), ev_bind (laws_markIntS_ev l 1 (by omega) (by omega) (by omega)), show (1 + (l.length : Int) < 0) = False from eq_false (by omega)]
  refine ev_succ.1 ?_
  simp only [laws_FnExactJoinSpot.j1, Bool.false_eq_true, if_false, if_true, bne_self_eq_false, ev_bind (laws_markIntS_ev r1 1 (by omega) (by omega) (by omega)), ev_bind (laws_heldIntS_ev r1.length 1 (by omega) (by omega) (by omega)), show (1 + (r1.length : Int) < 0) = False from eq_false (by omega), ev_bind (laws_toIntS_ev l (by omega)), ev_bind hi, ev_bind (laws_eqIntS_ev r1 (by omega))]
  refine ev_succ.1 ?_
  simp only [laws_FnExactJoinSpot.j2, Bool.false_eq_true, if_false, if_true, bne_self_eq_false, ev_bind (laws_heldIntS_ev r1.length 1 (by omega) (by omega) (by omega)), show (1 + (r1.length : Int) < 0) = False from eq_false (by omega)]
  exact Ev.now _

end Go.Proofs.Ytnoklicihomfoaa.Pure
