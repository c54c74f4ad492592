/- The plain statement behind the law FnExactNewCampus: for all arguments it answers true. -/
import Derived.Test.YtnoklicihomfoaaB0
import Derived.Test.YtnoklicihomfoaaF36
import Derived.Test.YtnoklicihomfoaaB1
import Derived.Test.YtnoklicihomfoaaB2
import Derived.Test.YtnoklicihomfoaaB11
import Derived.Test.YtnoklicihomfoaaB35
import Derived.Test.YtnoklicihomfoaaB38
namespace Go.Proofs.Ytnoklicihomfoaa.Pure
open Go.RowKit Go.Proofs.Ytnoklicihomfoaa.P Go.Proofs.YtnoklicihomfoaaW.PrintWords Go.Proofs.Ytnoklicihomfoaa.Q
set_option linter.unusedVariables false
set_option linter.unusedSimpArgs false

theorem FnExactNewCampus (n : Int) (l0 : List S86) (_ : (Lit.int .i64 n).wf = true) (hl : l0.length ≤ maxLen ∧ ∀ y ∈ l0, G86 y) : ∃ k, laws_FnExactNewCampus.f k n l0 = some true := by
  refine Ev.rounds ?_
  unfold laws_FnExactNewCampus.f
  simp only [laws_szEdgeS_eq l0 hl.1, Option.bind_some]
  by_cases hbig : (l0.length : Int) > 1048576
  · simp only [hbig, if_true]; exact Ev.now _
  simp only [hbig, if_false, show ((1048576 : Int) - (l0.length : Int) < 0) = False from eq_false (by omega)]
  have hs : (l0.map toE).length ≤ 1048576 := by simp; omega
  have hto := laws_toEdgeS_ev l0 (by omega)
  generalize l0.map toE = l at hs hto
  have hw := spec_NewCampus_ev n l hs
  have hi := impl_NewCampus_ev n l hs
  obtain ⟨m, e, b, hn, hel⟩ := newC_form n l
  rw [hn] at hw hi
  have heq := laws_eqCampus_ev m e [] [] (by omega) (by simp) (by simp [plSize])
  simp only [ev_bind hto, ev_bind hw, ev_bind hi, ev_bind heq, if_true, bne_self_eq_false]
  refine ev_succ.1 ?_
  simp only [laws_FnExactNewCampus.j0, Bool.false_eq_true, if_false, if_true, ev_bind hto, ev_bind (laws_eqEdgeS_ev l (by omega)), ev_bind (laws_markEdgeS_ev l 1 (by omega) (by omega) (by omega)), show ((1 : Int) + 3 * (l.length : Int) < 0) = False from eq_false (by omega), ev_bind heq, bne_self_eq_false]
  refine ev_succ.1 ?_
  simp only [laws_FnExactNewCampus.j1, Bool.false_eq_true, if_false, if_true, ev_bind hto, ev_bind hi, ev_bind (laws_markCampus_ev m e (by omega)), ev_bind (laws_heldCampus_ev m e.length (by omega)), show ((1 : Int) + 3 * (e.length : Int) < 0) = False from eq_false (by omega), ev_bind heq, bne_self_eq_false]
  refine ev_succ.1 ?_
  simp only [laws_FnExactNewCampus.j2, Bool.false_eq_true, if_false, if_true, ev_bind (laws_heldCampus_ev m e.length (by omega)), show ((1 : Int) + 3 * (e.length : Int) < 0) = False from eq_false (by omega)]
  exact Ev.now _

end Go.Proofs.Ytnoklicihomfoaa.Pure
