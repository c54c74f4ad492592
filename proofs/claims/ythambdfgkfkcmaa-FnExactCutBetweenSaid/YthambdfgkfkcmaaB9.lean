/- The plain statement behind the law FnExactCutBetween: for all arguments it answers true. -/
import Derived.Test.YthambdfgkfkcmaaB0
import Derived.Test.YthambdfgkfkcmaaF9
import Derived.Test.YthambdfgkfkcmaaB1
import Derived.Test.YthambdfgkfkcmaaB3
import Derived.Test.YthambdfgkfkcmaaB5
import Derived.Test.YthambdfgkfkcmaaB6
import Derived.Test.YthambdfgkfkcmaaB7
import Derived.Test.YthambdfgkfkcmaaB8
import Derived.Test.YthambdfgkfkcmaaQFlow
namespace Go.Proofs.Ythambdfgkfkcmaa.Pure
open Go.RowKit Go.Proofs.Ythambdfgkfkcmaa.P Go.Proofs.YthambdfgkfkcmaaW.PrintWords Go.Proofs.Ythambdfgkfkcmaa.Q
set_option linter.unusedVariables false
set_option linter.unusedSimpArgs false

theorem FnExactCutBetween (n : Int)  (l0 : List S69) (a : Int) (b : Int)  (_ : (Lit.int .i64 n).wf = true) (hG_l : l0.length ≤ maxLen ∧ ∀ y ∈ l0, G69 y) (_ : (Lit.int .i64 a).wf = true) (_ : (Lit.int .i64 b).wf = true) : ∃ k, laws_FnExactCutBetween.f k n l0 a b = some true := by
  refine Ev.rounds ?_
  unfold laws_FnExactCutBetween.f
  simp only [laws_szEdgeS_eq l0 hG_l.1, Option.bind_some]
  by_cases hbig_l : (l0.length : Int) > 1048576
  · simp only [hbig_l, if_true]; exact Ev.now _
  simp only [hbig_l, if_false, show ((1048576 : Int) - (l0.length : Int) < 0) = False from eq_false (by omega)]
  have hs_l : (l0.map toE).length ≤ 1048576 := by simp; omega
  have hto_l := laws_toEdgeS_ev l0 (by omega)
  generalize l0.map toE = l at hs_l hto_l
  have hi := impl_CutBetween_ev n l a b (by omega)
  have hw := spec_CutBetween_ev n l a b (by omega)
  have hel : (ends l).length = l.length := by simp [ends]
  have hb0 := cutV_len n (l.map trip) (ends l) a b
  rw [hel] at hb0
  generalize cutV n (l.map trip) (ends l) a b = v at hi hw hb0
  obtain ⟨r0, r1⟩ := v
  simp only at hb0
  simp only [Bool.false_eq_true, if_false, if_true, bne_self_eq_false, Option.bind_some, ev_bind hto_l, ev_bind hw, ev_bind hi, ev_bind (laws_eqIntS_ev r0 (by omega)), ev_bind (laws_eqEdgeS_ev l (by omega)), ev_bind (laws_markEdgeS_ev l (1) (by omega) (by omega) (by omega)), show (1 + 3 * (l.length : Int) < 0) = False from eq_false (by omega), ev_bind (laws_markIntS_ev r0 (1) (by omega) (by omega) (by omega)), ev_bind (laws_heldIntS_ev r0.length (1) (by omega) (by omega) (by omega)), show (1 + (r0.length : Int) < 0) = False from eq_false (by omega)]
  refine ev_succ.1 ?_
  simp only [laws_FnExactCutBetween.j0, Bool.false_eq_true, if_false, if_true, bne_self_eq_false, Option.bind_some, ev_bind hto_l, ev_bind hw, ev_bind hi, ev_bind (laws_eqIntS_ev r0 (by omega)), ev_bind (laws_eqEdgeS_ev l (by omega)), ev_bind (laws_markEdgeS_ev l (1) (by omega) (by omega) (by omega)), show (1 + 3 * (l.length : Int) < 0) = False from eq_false (by omega), ev_bind (laws_markIntS_ev r0 (1) (by omega) (by omega) (by omega)), ev_bind (laws_heldIntS_ev r0.length (1) (by omega) (by omega) (by omega)), show (1 + (r0.length : Int) < 0) = False from eq_false (by omega)]
  refine ev_succ.1 ?_
  simp only [laws_FnExactCutBetween.j1, Bool.false_eq_true, if_false, if_true, bne_self_eq_false, Option.bind_some, ev_bind hto_l, ev_bind hw, ev_bind hi, ev_bind (laws_eqIntS_ev r0 (by omega)), ev_bind (laws_eqEdgeS_ev l (by omega)), ev_bind (laws_markEdgeS_ev l (1) (by omega) (by omega) (by omega)), show (1 + 3 * (l.length : Int) < 0) = False from eq_false (by omega), ev_bind (laws_markIntS_ev r0 (1) (by omega) (by omega) (by omega)), ev_bind (laws_heldIntS_ev r0.length (1) (by omega) (by omega) (by omega)), show (1 + (r0.length : Int) < 0) = False from eq_false (by omega)]
  refine ev_succ.1 ?_
  simp only [laws_FnExactCutBetween.j2, Bool.false_eq_true, if_false, if_true, bne_self_eq_false, Option.bind_some, ev_bind hto_l, ev_bind hw, ev_bind hi, ev_bind (laws_eqIntS_ev r0 (by omega)), ev_bind (laws_eqEdgeS_ev l (by omega)), ev_bind (laws_markEdgeS_ev l (1) (by omega) (by omega) (by omega)), show (1 + 3 * (l.length : Int) < 0) = False from eq_false (by omega), ev_bind (laws_markIntS_ev r0 (1) (by omega) (by omega) (by omega)), ev_bind (laws_heldIntS_ev r0.length (1) (by omega) (by omega) (by omega)), show (1 + (r0.length : Int) < 0) = False from eq_false (by omega)]
  exact Ev.now _

end Go.Proofs.Ythambdfgkfkcmaa.Pure
