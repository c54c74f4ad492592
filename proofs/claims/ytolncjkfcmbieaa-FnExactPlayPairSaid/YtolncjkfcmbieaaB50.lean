/- The plain statement behind the law FnExactPlayPair: for all arguments it answers true. -/
import Derived.Test.YtolncjkfcmbieaaB0
import Derived.Test.YtolncjkfcmbieaaF50
import Derived.Test.YtolncjkfcmbieaaB38
import Derived.Test.YtolncjkfcmbieaaB47
import Derived.Test.YtolncjkfcmbieaaB48
import Derived.Test.YtolncjkfcmbieaaB49
namespace Go.Proofs.Ytolncjkfcmbieaa.Pure
open Go.RowKit Go.Proofs.Ytolncjkfcmbieaa.P Go.Proofs.YtolncjkfcmbieaaW.PrintWords Go.Proofs.Ytolncjkfcmbieaa.Q
set_option linter.unusedVariables false
set_option linter.unusedSimpArgs false

theorem FnExactPlayPair (l0 : List S43) (hl : l0.length ≤ maxLen ∧ ∀ y ∈ l0, G43 y) : ∃ k, laws_FnExactPlayPair.f k l0 = some true := by
  refine Ev.rounds ?_
  unfold laws_FnExactPlayPair.f
  simp only [laws_szPairStepS_eq l0 1048576 hl.1 (by omega) (by omega), Option.bind_some]
  by_cases hbig : (l0.length : Int) > 1048576
  · simp only [hbig, if_true]; exact Ev.now _
  simp only [hbig, if_false, show ((1048576 : Int) - (l0.length : Int) < 0) = False from eq_false (by omega)]
  have hs : (l0.map toPairStep).length ≤ 1048576 := by simp; omega
  have hto := laws_toPairStepS_ev l0 (by omega)
  generalize l0.map toPairStep = l at hs hto
  have hw := spec_PlayPair_ev l
  have hi := impl_PlayPair_ev l
  have hb := playedV_len l
  generalize playedV l = v at hw hi hb
  obtain ⟨r0, r1, r2, r3, r4⟩ := v
  simp only at hb
  obtain ⟨e0, e1, e2, e3⟩ := hb
  simp only [ev_bind hto, ev_bind hw, ev_bind hi, ev_bind (laws_eqPair_ev r0 r1 r2 (by omega) (by omega) (by omega)), ev_bind (laws_eqBoolS_ev r3 (by omega)), if_true, bne_self_eq_false]
  refine ev_succ.1 ?_
  simp only [laws_FnExactPlayPair.j0, Bool.false_eq_true, if_false, if_true, ev_bind hto, ev_bind (laws_eqPairStepS_ev l (by omega)), ev_bind (laws_markPairStepS_ev l 1 (by omega) (by omega) (by omega)), show ((1 : Int) + 2 * (l.length : Int) < 0) = False from eq_false (by omega), ev_bind (laws_eqPair_ev r0 r1 r2 (by omega) (by omega) (by omega)), ev_bind (laws_eqBoolS_ev r3 (by omega)), bne_self_eq_false]
  refine ev_succ.1 ?_
  simp only [laws_FnExactPlayPair.j1, Bool.false_eq_true, if_false, if_true, ev_bind hto, ev_bind hi, ev_bind (laws_markPair_ev r0 r1 r2 (by omega) (by omega) (by omega)), ev_bind (laws_markBoolS_ev r3 (1 + r0.length + r1.length + 2 * r2.length) (by omega) (by omega) (by omega)), ev_bind (laws_heldPair_ev r0.length r1.length r2.length (by omega) (by omega) (by omega)), ev_bind (laws_heldBoolS_ev r3.length (1 + r0.length + r1.length + 2 * r2.length) (by omega) (by omega) (by omega)), show ((1 : Int) + (r0.length : Int) + (r1.length : Int) + 2 * (r2.length : Int) < 0) = False from eq_false (by omega), show ((1 : Int) + (r0.length : Int) + (r1.length : Int) + 2 * (r2.length : Int) + (r3.length : Int) < 0) = False from eq_false (by omega), ev_bind (laws_eqPair_ev r0 r1 r2 (by omega) (by omega) (by omega)), ev_bind (laws_eqBoolS_ev r3 (by omega)), bne_self_eq_false]
  refine ev_succ.1 ?_
  simp only [laws_FnExactPlayPair.j2, Bool.false_eq_true, if_false, if_true, ev_bind (laws_heldPair_ev r0.length r1.length r2.length (by omega) (by omega) (by omega)), ev_bind (laws_heldBoolS_ev r3.length (1 + r0.length + r1.length + 2 * r2.length) (by omega) (by omega) (by omega)), show ((1 : Int) + (r0.length : Int) + (r1.length : Int) + 2 * (r2.length : Int) < 0) = False from eq_false (by omega), show ((1 : Int) + (r0.length : Int) + (r1.length : Int) + 2 * (r2.length : Int) + (r3.length : Int) < 0) = False from eq_false (by omega)]
  exact Ev.now _

end Go.Proofs.Ytolncjkfcmbieaa.Pure
