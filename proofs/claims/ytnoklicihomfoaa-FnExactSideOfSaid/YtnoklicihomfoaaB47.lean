/- The plain statement behind the law FnExactSideOf: for all arguments it answers true. -/
import Derived.Test.YtnoklicihomfoaaB0
import Derived.Test.YtnoklicihomfoaaF47
import Derived.Test.YtnoklicihomfoaaB1
import Derived.Test.YtnoklicihomfoaaB3
import Derived.Test.YtnoklicihomfoaaB5
import Derived.Test.YtnoklicihomfoaaB11
import Derived.Test.YtnoklicihomfoaaB12
import Derived.Test.YtnoklicihomfoaaB13
import Derived.Test.YtnoklicihomfoaaB20
import Derived.Test.YtnoklicihomfoaaB46
namespace Go.Proofs.Ytnoklicihomfoaa.Pure
open Go.RowKit Go.Proofs.Ytnoklicihomfoaa.P Go.Proofs.YtnoklicihomfoaaW.PrintWords Go.Proofs.Ytnoklicihomfoaa.Q
set_option linter.unusedVariables false
set_option linter.unusedSimpArgs false

theorem FnExactSideOf (n : Int)  (l0 : List S86) (cut : List Int) (a : Int)  (_ : (Lit.int .i64 n).wf = true) (hG_l : l0.length ≤ maxLen ∧ ∀ y ∈ l0, G86 y) (hG_cut : cut.length ≤ maxLen ∧ ∀ y ∈ cut, (Lit.int .i64 y).wf = true) (_ : (Lit.int .i64 a).wf = true) : ∃ k, laws_FnExactSideOf.f k n l0 cut a = some true := by
  refine Ev.rounds ?_
  unfold laws_FnExactSideOf.f
  by_cases hbig_cut : (cut.length : Int) > 1048576
  · simp only [hbig_cut, if_true]; exact Ev.now _
  simp only [hbig_cut, if_false]
  simp only [laws_szEdgeS_eq l0 hG_l.1, Option.bind_some]
  by_cases hbig_l : (l0.length : Int) > 1048576
  · simp only [hbig_l, if_true]; exact Ev.now _
  simp only [hbig_l, if_false, show ((1048576 : Int) - (l0.length : Int) < 0) = False from eq_false (by omega)]
  have hs_l : (l0.map toE).length ≤ 1048576 := by simp; omega
  have hto_l := laws_toEdgeS_ev l0 (by omega)
  generalize l0.map toE = l at hs_l hto_l
  have hs_cut : cut.length ≤ 1048576 := by omega
  have hto_cut := laws_toIntS_ev cut (by omega)
  have hi := impl_SideOf_ev n l cut a (by omega) (by omega)
  have hw := spec_SideOf_ev n l cut a (by omega) (by omega)
  have hb0 : (if goodE n (l.map trip) && (allB 0 ((l.length : Int) - 1) cut && chainB none cut) && inB 0 (wrap64 (n - 1)) a then (sideV (groupsV n.toNat (ends (dropFrom cut 0 l))) a, true) else ([], false)).1.length ≤ 1048576 := by
    split
    · rename_i hg
      simp only [Bool.and_eq_true] at hg
      obtain ⟨m, rfl, h1, h2, hw, h40⟩ := goodE_within hg.1.1
      have := sideFrom_length (groupsV m (ends (dropFrom cut 0 l))) a (groupsV m (ends (dropFrom cut 0 l))) 0
      rw [groupsV_length] at this
      simp only [sideV, Int.toNat_natCast]; omega
    · simp
  generalize (if goodE n (l.map trip) && (allB 0 ((l.length : Int) - 1) cut && chainB none cut) && inB 0 (wrap64 (n - 1)) a then (sideV (groupsV n.toNat (ends (dropFrom cut 0 l))) a, true) else ([], false)) = v at hi hw hb0
  obtain ⟨r0, r1⟩ := v
  simp only at hb0
  simp only [Bool.false_eq_true, if_false, if_true, bne_self_eq_false, Option.bind_some, ev_bind hto_l, ev_bind hto_cut, ev_bind hw, ev_bind hi, ev_bind (laws_eqIntS_ev r0 (by omega)), ev_bind (laws_eqEdgeS_ev l (by omega)), ev_bind (laws_eqIntS_ev cut (by omega)), ev_bind (laws_markEdgeS_ev l (1) (by omega) (by omega) (by omega)), ev_bind (laws_markIntS_ev cut (1 + 3 * (l.length : Int)) (by omega) (by omega) (by omega)), show (1 + 3 * (l.length : Int) + (cut.length : Int) < 0) = False from eq_false (by omega), ev_bind (laws_markIntS_ev r0 (1) (by omega) (by omega) (by omega)), ev_bind (laws_heldIntS_ev r0.length (1) (by omega) (by omega) (by omega)), show (1 + (r0.length : Int) < 0) = False from eq_false (by omega)]
  refine ev_succ.1 ?_
  simp only [laws_FnExactSideOf.j0, Bool.false_eq_true, if_false, if_true, bne_self_eq_false, Option.bind_some, ev_bind hto_l, ev_bind hto_cut, ev_bind hw, ev_bind hi, ev_bind (laws_eqIntS_ev r0 (by omega)), ev_bind (laws_eqEdgeS_ev l (by omega)), ev_bind (laws_eqIntS_ev cut (by omega)), ev_bind (laws_markEdgeS_ev l (1) (by omega) (by omega) (by omega)), ev_bind (laws_markIntS_ev cut (1 + 3 * (l.length : Int)) (by omega) (by omega) (by omega)), show (1 + 3 * (l.length : Int) + (cut.length : Int) < 0) = False from eq_false (by omega), ev_bind (laws_markIntS_ev r0 (1) (by omega) (by omega) (by omega)), ev_bind (laws_heldIntS_ev r0.length (1) (by omega) (by omega) (by omega)), show (1 + (r0.length : Int) < 0) = False from eq_false (by omega)]
  refine ev_succ.1 ?_
  simp only [laws_FnExactSideOf.j1, Bool.false_eq_true, if_false, if_true, bne_self_eq_false, Option.bind_some, ev_bind hto_l, ev_bind hto_cut, ev_bind hw, ev_bind hi, ev_bind (laws_eqIntS_ev r0 (by omega)), ev_bind (laws_eqEdgeS_ev l (by omega)), ev_bind (laws_eqIntS_ev cut (by omega)), ev_bind (laws_markEdgeS_ev l (1) (by omega) (by omega) (by omega)), ev_bind (laws_markIntS_ev cut (1 + 3 * (l.length : Int)) (by omega) (by omega) (by omega)), show (1 + 3 * (l.length : Int) + (cut.length : Int) < 0) = False from eq_false (by omega), ev_bind (laws_markIntS_ev r0 (1) (by omega) (by omega) (by omega)), ev_bind (laws_heldIntS_ev r0.length (1) (by omega) (by omega) (by omega)), show (1 + (r0.length : Int) < 0) = False from eq_false (by omega)]
  refine ev_succ.1 ?_
  simp only [laws_FnExactSideOf.j2, Bool.false_eq_true, if_false, if_true, bne_self_eq_false, Option.bind_some, ev_bind hto_l, ev_bind hto_cut, ev_bind hw, ev_bind hi, ev_bind (laws_eqIntS_ev r0 (by omega)), ev_bind (laws_eqEdgeS_ev l (by omega)), ev_bind (laws_eqIntS_ev cut (by omega)), ev_bind (laws_markEdgeS_ev l (1) (by omega) (by omega) (by omega)), ev_bind (laws_markIntS_ev cut (1 + 3 * (l.length : Int)) (by omega) (by omega) (by omega)), show (1 + 3 * (l.length : Int) + (cut.length : Int) < 0) = False from eq_false (by omega), ev_bind (laws_markIntS_ev r0 (1) (by omega) (by omega) (by omega)), ev_bind (laws_heldIntS_ev r0.length (1) (by omega) (by omega) (by omega)), show (1 + (r0.length : Int) < 0) = False from eq_false (by omega)]
  exact Ev.now _

end Go.Proofs.Ytnoklicihomfoaa.Pure
