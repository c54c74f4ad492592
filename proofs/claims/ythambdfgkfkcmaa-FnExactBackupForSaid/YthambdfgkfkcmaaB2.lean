/- The plain statement behind the law FnExactBackupFor: for all arguments it answers true. -/
import Derived.Test.YthambdfgkfkcmaaB0
import Derived.Test.YthambdfgkfkcmaaF2
import Derived.Test.YthambdfgkfkcmaaB1
import Derived.Test.YthambdfgkfkcmaaB9
import Derived.Test.YthambdfgkfkcmaaQFlow
import Derived.Test.YthambdfgkfkcmaaQWays
namespace Go.Proofs.Ythambdfgkfkcmaa.Pure
open Go.RowKit Go.Proofs.Ythambdfgkfkcmaa.P Go.Proofs.YthambdfgkfkcmaaW.PrintWords Go.Proofs.Ythambdfgkfkcmaa.Q
set_option linter.unusedVariables false
set_option linter.unusedSimpArgs false

theorem FnExactBackupFor (n : Int)  (l0 : List S69) (a : Int)  (b : Int)  (_ : (Lit.int .i64 n).wf = true) (hG_l : l0.length ≤ maxLen ∧ ∀ y ∈ l0, G69 y) (_ : (Lit.int .i64 a).wf = true) (_ : (Lit.int .i64 b).wf = true) : ∃ k, laws_FnExactBackupFor.f k n l0 a b = some true := by
  refine Ev.rounds ?_
  unfold laws_FnExactBackupFor.f
  simp only [laws_szEdgeS_eq l0 hG_l.1, Option.bind_some]
  by_cases hbig_l : (l0.length : Int) > 1048576
  · simp only [hbig_l, if_true]; exact Ev.now _
  simp only [hbig_l, if_false, show ((1048576 : Int) - (l0.length : Int) < 0) = False from eq_false (by omega)]
  have hs_l : (l0.map toE).length ≤ 1048576 := by simp; omega
  have hto_l := laws_toEdgeS_ev l0 (by omega)
  generalize l0.map toE = l at hs_l hto_l
  have hi := impl_BackupFor_ev n l a b (by omega)
  have hw := spec_BackupFor_ev n l a b (by omega)
  have hb0 : (backV n (l.map trip) (ends l) a b).1.length ≤ 1048576 := by
    have := (backV_size n (l.map trip) (ends l) (by simp [ends, trip, Function.comp_def]) a b).1; omega
  have hb1 : (backV n (l.map trip) (ends l) a b).2.1.length ≤ 1048576 := by
    have := (backV_size n (l.map trip) (ends l) (by simp [ends, trip, Function.comp_def]) a b).2; omega
  generalize (backV n (l.map trip) (ends l) a b) = v at hi hw hb0 hb1
  obtain ⟨r0, r1, r2⟩ := v
  simp only at hb0 hb1
  simp only [Bool.false_eq_true, if_false, if_true, bne_self_eq_false, Option.bind_some, ev_bind hto_l, ev_bind hw, ev_bind hi, ev_bind (laws_eqIntS_ev r0 (by omega)), ev_bind (laws_eqIntS_ev r1 (by omega)), ev_bind (laws_eqEdgeS_ev l (by omega)), ev_bind (laws_markEdgeS_ev l (1) (by omega) (by omega) (by omega)), show (1 + 3 * (l.length : Int) < 0) = False from eq_false (by omega), ev_bind (laws_markIntS_ev r0 (1) (by omega) (by omega) (by omega)), ev_bind (laws_heldIntS_ev r0.length (1) (by omega) (by omega) (by omega)), show (1 + (r0.length : Int) < 0) = False from eq_false (by omega), ev_bind (laws_markIntS_ev r1 (1 + (r0.length : Int)) (by omega) (by omega) (by omega)), ev_bind (laws_heldIntS_ev r1.length (1 + (r0.length : Int)) (by omega) (by omega) (by omega)), show (1 + (r0.length : Int) + (r1.length : Int) < 0) = False from eq_false (by omega)]
  refine ev_succ.1 ?_
  simp only [laws_FnExactBackupFor.j0, Bool.false_eq_true, if_false, if_true, bne_self_eq_false, Option.bind_some, ev_bind hto_l, ev_bind hw, ev_bind hi, ev_bind (laws_eqIntS_ev r0 (by omega)), ev_bind (laws_eqIntS_ev r1 (by omega)), ev_bind (laws_eqEdgeS_ev l (by omega)), ev_bind (laws_markEdgeS_ev l (1) (by omega) (by omega) (by omega)), show (1 + 3 * (l.length : Int) < 0) = False from eq_false (by omega), ev_bind (laws_markIntS_ev r0 (1) (by omega) (by omega) (by omega)), ev_bind (laws_heldIntS_ev r0.length (1) (by omega) (by omega) (by omega)), show (1 + (r0.length : Int) < 0) = False from eq_false (by omega), ev_bind (laws_markIntS_ev r1 (1 + (r0.length : Int)) (by omega) (by omega) (by omega)), ev_bind (laws_heldIntS_ev r1.length (1 + (r0.length : Int)) (by omega) (by omega) (by omega)), show (1 + (r0.length : Int) + (r1.length : Int) < 0) = False from eq_false (by omega)]
  refine ev_succ.1 ?_
  simp only [laws_FnExactBackupFor.j1, Bool.false_eq_true, if_false, if_true, bne_self_eq_false, Option.bind_some, ev_bind hto_l, ev_bind hw, ev_bind hi, ev_bind (laws_eqIntS_ev r0 (by omega)), ev_bind (laws_eqIntS_ev r1 (by omega)), ev_bind (laws_eqEdgeS_ev l (by omega)), ev_bind (laws_markEdgeS_ev l (1) (by omega) (by omega) (by omega)), show (1 + 3 * (l.length : Int) < 0) = False from eq_false (by omega), ev_bind (laws_markIntS_ev r0 (1) (by omega) (by omega) (by omega)), ev_bind (laws_heldIntS_ev r0.length (1) (by omega) (by omega) (by omega)), show (1 + (r0.length : Int) < 0) = False from eq_false (by omega), ev_bind (laws_markIntS_ev r1 (1 + (r0.length : Int)) (by omega) (by omega) (by omega)), ev_bind (laws_heldIntS_ev r1.length (1 + (r0.length : Int)) (by omega) (by omega) (by omega)), show (1 + (r0.length : Int) + (r1.length : Int) < 0) = False from eq_false (by omega)]
  refine ev_succ.1 ?_
  simp only [laws_FnExactBackupFor.j2, Bool.false_eq_true, if_false, if_true, bne_self_eq_false, Option.bind_some, ev_bind hto_l, ev_bind hw, ev_bind hi, ev_bind (laws_eqIntS_ev r0 (by omega)), ev_bind (laws_eqIntS_ev r1 (by omega)), ev_bind (laws_eqEdgeS_ev l (by omega)), ev_bind (laws_markEdgeS_ev l (1) (by omega) (by omega) (by omega)), show (1 + 3 * (l.length : Int) < 0) = False from eq_false (by omega), ev_bind (laws_markIntS_ev r0 (1) (by omega) (by omega) (by omega)), ev_bind (laws_heldIntS_ev r0.length (1) (by omega) (by omega) (by omega)), show (1 + (r0.length : Int) < 0) = False from eq_false (by omega), ev_bind (laws_markIntS_ev r1 (1 + (r0.length : Int)) (by omega) (by omega) (by omega)), ev_bind (laws_heldIntS_ev r1.length (1 + (r0.length : Int)) (by omega) (by omega) (by omega)), show (1 + (r0.length : Int) + (r1.length : Int) < 0) = False from eq_false (by omega)]
  exact Ev.now _

end Go.Proofs.Ythambdfgkfkcmaa.Pure
