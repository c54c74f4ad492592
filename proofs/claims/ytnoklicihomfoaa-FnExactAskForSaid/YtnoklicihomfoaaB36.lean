/- The plain statement behind the law FnExactAskFor: for all arguments it answers true. -/
import Derived.Test.YtnoklicihomfoaaB0
import Derived.Test.YtnoklicihomfoaaF36
import Derived.Test.YtnoklicihomfoaaB11
import Derived.Test.YtnoklicihomfoaaB13
import Derived.Test.YtnoklicihomfoaaB20
import Derived.Test.YtnoklicihomfoaaB30
import Derived.Test.YtnoklicihomfoaaB32
import Derived.Test.YtnoklicihomfoaaB35
namespace Go.Proofs.Ytnoklicihomfoaa.Pure
open Go.RowKit Go.Proofs.Ytnoklicihomfoaa.P Go.Proofs.YtnoklicihomfoaaW.PrintWords Go.Proofs.Ytnoklicihomfoaa.Q
set_option linter.unusedVariables false
set_option linter.unusedSimpArgs false

theorem FnExactAskFor (l0 : List S106) (lo hi : Int) (s0 : List S106) (hl : l0.length ≤ maxLen ∧ ∀ y ∈ l0, G106 y) (_ : (Lit.int .i64 lo).wf = true) (_ : (Lit.int .i64 hi).wf = true) (hs : s0.length ≤ maxLen ∧ ∀ y ∈ s0, G106 y) : ∃ k, laws_FnExactAskFor.f k l0 lo hi s0 = some true := by
  refine Ev.rounds ?_
  unfold laws_FnExactAskFor.f
  simp only [laws_szHaveS_eq l0 1048576 hl.1 (by omega) (by omega), Option.bind_some]
  by_cases hbig : (l0.length : Int) > 1048576
  · simp only [hbig, if_true]; exact Ev.now _
  simp only [hbig, if_false, show ((1048576 : Int) - (l0.length : Int) < 0) = False from eq_false (by omega), laws_szSummary_eq lo hi s0 (1048576 - (l0.length : Int)) hs.1 (by omega) (by omega), Option.bind_some]
  by_cases hbig2 : (s0.length : Int) > 1048576 - (l0.length : Int)
  · simp only [hbig2, if_true]; exact Ev.now _
  simp only [hbig2, if_false, show (1048576 - (l0.length : Int) - (s0.length : Int) < 0) = False from eq_false (by omega)]
  have hs_l : (l0.map toHave).length ≤ 1048576 := by simp; omega
  have hs_s : (s0.map toHave).length ≤ 1048576 := by simp; omega
  have hto_l := laws_toHaveS_ev l0 (by omega)
  have hto_s := laws_toSummary_ev lo hi s0 (by omega)
  generalize l0.map toHave = l at hs_l hto_l
  generalize s0.map toHave = s at hs_s hto_s
  have hi_ := impl_AskFor_ev l lo hi s (by omega) (by omega)
  have hw := spec_AskFor_ev l lo hi s (by omega) (by omega)
  have hb0 : (if goodH (l.map hpr) && goodS lo hi (s.map hpr) then ((s.filter (fun x => decide (x.f1 > seqV (l.map hpr) x.f0))).map (fun x => x.f0), l.filter (fun x => inB lo hi x.f0 && decide (x.f1 > seqV (s.map hpr) x.f0)), true) else ([], [], false)).1.length ≤ 1048576 := by
    split
    · simp only [List.length_map]; exact Nat.le_trans (List.length_filter_le _ _) hs_s
    · simp
  have hb1 : (if goodH (l.map hpr) && goodS lo hi (s.map hpr) then ((s.filter (fun x => decide (x.f1 > seqV (l.map hpr) x.f0))).map (fun x => x.f0), l.filter (fun x => inB lo hi x.f0 && decide (x.f1 > seqV (s.map hpr) x.f0)), true) else ([], [], false)).2.1.length ≤ 1048576 := by
    split
    · exact Nat.le_trans (List.length_filter_le _ _) hs_l
    · simp
  generalize (if goodH (l.map hpr) && goodS lo hi (s.map hpr) then ((s.filter (fun x => decide (x.f1 > seqV (l.map hpr) x.f0))).map (fun x => x.f0), l.filter (fun x => inB lo hi x.f0 && decide (x.f1 > seqV (s.map hpr) x.f0)), true) else ([], [], false)) = v at hi_ hw hb0 hb1
  obtain ⟨r0, r1, r2⟩ := v
  simp only at hb0 hb1
  simp only [Bool.false_eq_true, if_false, if_true, bne_self_eq_false, Option.bind_some, ev_bind hto_l, ev_bind hto_s, ev_bind hw, ev_bind hi_, ev_bind (laws_eqIntS_ev r0 (by omega)), ev_bind (laws_eqHaveS_ev r1 (by omega)), ev_bind (laws_eqHaveS_ev l (by omega)), ev_bind (laws_eqSummary_ev lo hi s (by omega)), ev_bind (laws_markHaveS_ev l 1 (by omega) (by omega) (by omega)), ev_bind (laws_markSummary_ev lo hi s (1 + 2 * (l.length : Int)) (by omega) (by omega) (by omega)), show (1 + 2 * (l.length : Int) + 2 * (s.length : Int) < 0) = False from eq_false (by omega), ev_bind (laws_markIntS_ev r0 1 (by omega) (by omega) (by omega)), ev_bind (laws_markHaveS_ev r1 (1 + (r0.length : Int)) (by omega) (by omega) (by omega)), ev_bind (laws_heldIntS_ev r0.length 1 (by omega) (by omega) (by omega)), ev_bind (laws_heldHaveS_ev r1.length (1 + (r0.length : Int)) (by omega) (by omega) (by omega)), show (1 + (r0.length : Int) < 0) = False from eq_false (by omega), show (1 + (r0.length : Int) + 2 * (r1.length : Int) < 0) = False from eq_false (by omega)]
  refine ev_succ.1 ?_
  simp only [laws_FnExactAskFor.j0, Bool.false_eq_true, if_false, if_true, bne_self_eq_false, Option.bind_some, ev_bind hto_l, ev_bind hto_s, ev_bind hw, ev_bind hi_, ev_bind (laws_eqIntS_ev r0 (by omega)), ev_bind (laws_eqHaveS_ev r1 (by omega)), ev_bind (laws_eqHaveS_ev l (by omega)), ev_bind (laws_eqSummary_ev lo hi s (by omega)), ev_bind (laws_markHaveS_ev l 1 (by omega) (by omega) (by omega)), ev_bind (laws_markSummary_ev lo hi s (1 + 2 * (l.length : Int)) (by omega) (by omega) (by omega)), show (1 + 2 * (l.length : Int) + 2 * (s.length : Int) < 0) = False from eq_false (by omega), ev_bind (laws_markIntS_ev r0 1 (by omega) (by omega) (by omega)), ev_bind (laws_markHaveS_ev r1 (1 + (r0.length : Int)) (by omega) (by omega) (by omega)), ev_bind (laws_heldIntS_ev r0.length 1 (by omega) (by omega) (by omega)), ev_bind (laws_heldHaveS_ev r1.length (1 + (r0.length : Int)) (by omega) (by omega) (by omega)), show (1 + (r0.length : Int) < 0) = False from eq_false (by omega), show (1 + (r0.length : Int) + 2 * (r1.length : Int) < 0) = False from eq_false (by omega)]
  refine ev_succ.1 ?_
  simp only [laws_FnExactAskFor.j1, Bool.false_eq_true, if_false, if_true, bne_self_eq_false, Option.bind_some, ev_bind hto_l, ev_bind hto_s, ev_bind hw, ev_bind hi_, ev_bind (laws_eqIntS_ev r0 (by omega)), ev_bind (laws_eqHaveS_ev r1 (by omega)), ev_bind (laws_eqHaveS_ev l (by omega)), ev_bind (laws_eqSummary_ev lo hi s (by omega)), ev_bind (laws_markHaveS_ev l 1 (by omega) (by omega) (by omega)), ev_bind (laws_markSummary_ev lo hi s (1 + 2 * (l.length : Int)) (by omega) (by omega) (by omega)), show (1 + 2 * (l.length : Int) + 2 * (s.length : Int) < 0) = False from eq_false (by omega), ev_bind (laws_markIntS_ev r0 1 (by omega) (by omega) (by omega)), ev_bind (laws_markHaveS_ev r1 (1 + (r0.length : Int)) (by omega) (by omega) (by omega)), ev_bind (laws_heldIntS_ev r0.length 1 (by omega) (by omega) (by omega)), ev_bind (laws_heldHaveS_ev r1.length (1 + (r0.length : Int)) (by omega) (by omega) (by omega)), show (1 + (r0.length : Int) < 0) = False from eq_false (by omega), show (1 + (r0.length : Int) + 2 * (r1.length : Int) < 0) = False from eq_false (by omega)]
  refine ev_succ.1 ?_
  simp only [laws_FnExactAskFor.j2, Bool.false_eq_true, if_false, if_true, bne_self_eq_false, Option.bind_some, ev_bind hto_l, ev_bind hto_s, ev_bind hw, ev_bind hi_, ev_bind (laws_eqIntS_ev r0 (by omega)), ev_bind (laws_eqHaveS_ev r1 (by omega)), ev_bind (laws_eqHaveS_ev l (by omega)), ev_bind (laws_eqSummary_ev lo hi s (by omega)), ev_bind (laws_markHaveS_ev l 1 (by omega) (by omega) (by omega)), ev_bind (laws_markSummary_ev lo hi s (1 + 2 * (l.length : Int)) (by omega) (by omega) (by omega)), show (1 + 2 * (l.length : Int) + 2 * (s.length : Int) < 0) = False from eq_false (by omega), ev_bind (laws_markIntS_ev r0 1 (by omega) (by omega) (by omega)), ev_bind (laws_markHaveS_ev r1 (1 + (r0.length : Int)) (by omega) (by omega) (by omega)), ev_bind (laws_heldIntS_ev r0.length 1 (by omega) (by omega) (by omega)), ev_bind (laws_heldHaveS_ev r1.length (1 + (r0.length : Int)) (by omega) (by omega) (by omega)), show (1 + (r0.length : Int) < 0) = False from eq_false (by omega), show (1 + (r0.length : Int) + 2 * (r1.length : Int) < 0) = False from eq_false (by omega)]
  exact Ev.now _

end Go.Proofs.Ytnoklicihomfoaa.Pure
