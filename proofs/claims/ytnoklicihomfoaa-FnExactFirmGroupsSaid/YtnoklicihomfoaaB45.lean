/- The plain statement behind the law FnExactFirmGroups: for all arguments it answers true. -/
import Derived.Test.YtnoklicihomfoaaB0
import Derived.Test.YtnoklicihomfoaaF45
import Derived.Test.YtnoklicihomfoaaB1
import Derived.Test.YtnoklicihomfoaaB2
import Derived.Test.YtnoklicihomfoaaB3
import Derived.Test.YtnoklicihomfoaaB7
import Derived.Test.YtnoklicihomfoaaB10
import Derived.Test.YtnoklicihomfoaaB11
import Derived.Test.YtnoklicihomfoaaB12
import Derived.Test.YtnoklicihomfoaaB13
import Derived.Test.YtnoklicihomfoaaB14
import Derived.Test.YtnoklicihomfoaaB16
import Derived.Test.YtnoklicihomfoaaB20
import Derived.Test.YtnoklicihomfoaaB37
namespace Go.Proofs.Ytnoklicihomfoaa.Pure
open Go.RowKit Go.Proofs.Ytnoklicihomfoaa.P Go.Proofs.YtnoklicihomfoaaW.PrintWords Go.Proofs.Ytnoklicihomfoaa.Q
set_option linter.unusedVariables false
set_option linter.unusedSimpArgs false

theorem spec_FirmGroups_ev (n : Int) (l : List S84) (h : l.length ≤ 1000000000) : Ev (fun k => spec_FirmGroups.f k n l) (if goodE n (l.map trip) then (groupsV n.toNat (ends (dropFrom (cutL n.toNat (ends l)) 0 l)), true) else ([], false)) := by
  unfold spec_FirmGroups.f
  simp only [ev_bind (spec_GoodEdges_ev n l (by omega)), ev_ite, ev_some]
  cases hg : goodE n (l.map trip)
  · simp
  · obtain ⟨m, rfl, h1, h2, hw, _⟩ := goodE_within hg
    have hcl : (cutL m (ends l)).length ≤ 1000000000 := by
      have := cutFrom_length m (ends l) (ends l).length 0
      have e : (ends l).length = l.length := by simp [ends]
      unfold cutL; omega
    have hdl : (dropFrom (cutL m (ends l)) 0 l).length ≤ 1000000000 := Nat.le_trans (dropFrom_length _ _ _) h
    simp only [if_true, Int.toNat_natCast, ev_bind (spec_l16Edges_ev m l hw h (by omega)), ev_bind (spec_l15Without_ev l _ h hcl), ev_bind (spec_l8Groups_ev m _ (within_drop hw _) hdl (by omega)), ev_some]

theorem impl_FirmGroups_ev (n : Int) (l : List S84) (h : l.length ≤ 1000000000) : Ev (fun k => impl_FirmGroups.f k n l) (if goodE n (l.map trip) then (groupsV n.toNat (ends (dropFrom (cutL n.toNat (ends l)) 0 l)), true) else ([], false)) := by
  unfold impl_FirmGroups.f
  simp only [ev_bind (impl_GoodEdges_ev n l (by omega)), ev_ite, ev_some]
  cases hg : goodE n (l.map trip)
  · simp
  · obtain ⟨m, rfl, h1, h2, hw, _⟩ := goodE_within hg
    have hcl : (cutL m (ends l)).length ≤ 1000000000 := by
      have := cutFrom_length m (ends l) (ends l).length 0
      have e : (ends l).length = l.length := by simp [ends]
      unfold cutL; omega
    have hdl : (dropFrom (cutL m (ends l)) 0 l).length ≤ 1000000000 := Nat.le_trans (dropFrom_length _ _ _) h
    simp only [if_true, Int.toNat_natCast, ev_bind (impl_cutEdges_ev m l hw h (by omega)), ev_bind (impl_without_ev l _ h hcl), ev_bind (impl_groupsOf_ev m _ (within_drop hw _) hdl (by omega)), ev_some]

theorem FnExactFirmGroups (n : Int)  (l0 : List S86) (_ : (Lit.int .i64 n).wf = true) (hG_l : l0.length ≤ maxLen ∧ ∀ y ∈ l0, G86 y) : ∃ k, laws_FnExactFirmGroups.f k n l0 = some true := by
  refine Ev.rounds ?_
  unfold laws_FnExactFirmGroups.f
  simp only [laws_szEdgeS_eq l0 hG_l.1, Option.bind_some]
  by_cases hbig_l : (l0.length : Int) > 1048576
  · simp only [hbig_l, if_true]; exact Ev.now _
  simp only [hbig_l, if_false, show ((1048576 : Int) - (l0.length : Int) < 0) = False from eq_false (by omega)]
  have hs_l : (l0.map toE).length ≤ 1048576 := by simp; omega
  have hto_l := laws_toEdgeS_ev l0 (by omega)
  generalize l0.map toE = l at hs_l hto_l
  have hi := impl_FirmGroups_ev n l (by omega)
  have hw := spec_FirmGroups_ev n l (by omega)
  have hb0 : (if goodE n (l.map trip) then (groupsV n.toNat (ends (dropFrom (cutL n.toNat (ends l)) 0 l)), true) else ([], false)).1.length ≤ 1048576 := by
    split
    · rename_i hg
      obtain ⟨m, rfl, h1, h2, hw, h40⟩ := goodE_within hg
      simp only [groupsV_length, Int.toNat_natCast]; omega
    · simp
  generalize (if goodE n (l.map trip) then (groupsV n.toNat (ends (dropFrom (cutL n.toNat (ends l)) 0 l)), true) else ([], false)) = v at hi hw hb0
  obtain ⟨r0, r1⟩ := v
  simp only at hb0
  simp only [Bool.false_eq_true, if_false, if_true, bne_self_eq_false, Option.bind_some, ev_bind hto_l, ev_bind hw, ev_bind hi, ev_bind (laws_eqIntS_ev r0 (by omega)), ev_bind (laws_eqEdgeS_ev l (by omega)), ev_bind (laws_markEdgeS_ev l (1) (by omega) (by omega) (by omega)), show (1 + 3 * (l.length : Int) < 0) = False from eq_false (by omega), ev_bind (laws_markIntS_ev r0 (1) (by omega) (by omega) (by omega)), ev_bind (laws_heldIntS_ev r0.length (1) (by omega) (by omega) (by omega)), show (1 + (r0.length : Int) < 0) = False from eq_false (by omega)]
  refine ev_succ.1 ?_
  simp only [laws_FnExactFirmGroups.j0, Bool.false_eq_true, if_false, if_true, bne_self_eq_false, Option.bind_some, ev_bind hto_l, ev_bind hw, ev_bind hi, ev_bind (laws_eqIntS_ev r0 (by omega)), ev_bind (laws_eqEdgeS_ev l (by omega)), ev_bind (laws_markEdgeS_ev l (1) (by omega) (by omega) (by omega)), show (1 + 3 * (l.length : Int) < 0) = False from eq_false (by omega), ev_bind (laws_markIntS_ev r0 (1) (by omega) (by omega) (by omega)), ev_bind (laws_heldIntS_ev r0.length (1) (by omega) (by omega) (by omega)), show (1 + (r0.length : Int) < 0) = False from eq_false (by omega)]
  refine ev_succ.1 ?_
  simp only [laws_FnExactFirmGroups.j1, Bool.false_eq_true, if_false, if_true, bne_self_eq_false, Option.bind_some, ev_bind hto_l, ev_bind hw, ev_bind hi, ev_bind (laws_eqIntS_ev r0 (by omega)), ev_bind (laws_eqEdgeS_ev l (by omega)), ev_bind (laws_markEdgeS_ev l (1) (by omega) (by omega) (by omega)), show (1 + 3 * (l.length : Int) < 0) = False from eq_false (by omega), ev_bind (laws_markIntS_ev r0 (1) (by omega) (by omega) (by omega)), ev_bind (laws_heldIntS_ev r0.length (1) (by omega) (by omega) (by omega)), show (1 + (r0.length : Int) < 0) = False from eq_false (by omega)]
  refine ev_succ.1 ?_
  simp only [laws_FnExactFirmGroups.j2, Bool.false_eq_true, if_false, if_true, bne_self_eq_false, Option.bind_some, ev_bind hto_l, ev_bind hw, ev_bind hi, ev_bind (laws_eqIntS_ev r0 (by omega)), ev_bind (laws_eqEdgeS_ev l (by omega)), ev_bind (laws_markEdgeS_ev l (1) (by omega) (by omega) (by omega)), show (1 + 3 * (l.length : Int) < 0) = False from eq_false (by omega), ev_bind (laws_markIntS_ev r0 (1) (by omega) (by omega) (by omega)), ev_bind (laws_heldIntS_ev r0.length (1) (by omega) (by omega) (by omega)), show (1 + (r0.length : Int) < 0) = False from eq_false (by omega)]
  exact Ev.now _

end Go.Proofs.Ytnoklicihomfoaa.Pure
