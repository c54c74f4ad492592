/- The plain statement behind the law FnExactSettlePair: for all arguments it answers true. -/
import Derived.Test.YtolncjkfcmbieaaB0
import Derived.Test.YtolncjkfcmbieaaF45
import Derived.Test.YtolncjkfcmbieaaB38
import Derived.Test.YtolncjkfcmbieaaB40
import Derived.Test.YtolncjkfcmbieaaB44
namespace Go.Proofs.Ytolncjkfcmbieaa.Pure
open Go.RowKit Go.Proofs.Ytolncjkfcmbieaa.P Go.Proofs.YtolncjkfcmbieaaW.PrintWords Go.Proofs.Ytolncjkfcmbieaa.Q
set_option linter.unusedVariables false
set_option linter.unusedSimpArgs false

theorem FnExactSettlePair (l0 l1 : List Int) (l2 : List S188) (h0 : l0.length ≤ maxLen ∧ ∀ y ∈ l0, (Lit.int .i64 y).wf = true) (h1 : l1.length ≤ maxLen ∧ ∀ y ∈ l1, (Lit.int .i64 y).wf = true) (h2 : l2.length ≤ maxLen ∧ ∀ y ∈ l2, G188 y) : ∃ n, laws_FnExactSettlePair.f n l0 l1 l2 = some true := by
  refine Ev.rounds ?_
  unfold laws_FnExactSettlePair.f
  obtain ⟨s, hs, hsz⟩ := laws_szPair_eq l0 l1 l2 h0.1 h1.1 h2.1
  simp only [hs, Option.bind_some]
  by_cases hneg : s < 0
  · simp only [hneg, if_true]; exact Ev.now _
  obtain ⟨b0, b1, b2⟩ := hsz.resolve_left hneg
  have hto := laws_toPair_ev l0 l1 l2 b0 b1 b2
  have b2' : (l2.map toHello).length ≤ 1048576 := by simpa using b2
  generalize l2.map toHello = ln at hto b2'
  have hw := spec_SettlePair_ev l0 l1 ln b0 b1 b2'
  have hi := impl_SettlePair_ev l0 l1 ln b0 b1 b2'
  have hb := settledV_len l0 l1 ln
  generalize settledV l0 l1 ln = v at hw hi hb
  obtain ⟨r0, r1, r2, r3⟩ := v
  simp only at hb
  obtain ⟨e0, e1, e2⟩ := hb
  simp only [hneg, if_false, Option.bind_some, ev_bind hto, ev_bind hw, ev_bind hi, ev_bind (laws_eqPair_ev r0 r1 r2 (by omega) (by omega) (by omega)), if_true, bne_self_eq_false]
  refine ev_succ.1 ?_
  simp only [laws_FnExactSettlePair.j0, Bool.false_eq_true, if_false, if_true, ev_bind hto, ev_bind (laws_eqPair_ev l0 l1 ln (by omega) (by omega) (by omega)), ev_bind (laws_markPair_ev l0 l1 ln (by omega) (by omega) (by omega)), show ((1 : Int) + (l0.length : Int) + (l1.length : Int) + 2 * (ln.length : Int) < 0) = False from eq_false (by omega), ev_bind (laws_eqPair_ev r0 r1 r2 (by omega) (by omega) (by omega)), bne_self_eq_false]
  refine ev_succ.1 ?_
  simp only [laws_FnExactSettlePair.j1, Bool.false_eq_true, if_false, if_true, Option.bind_some, ev_bind hto, ev_bind hi, ev_bind (laws_markPair_ev r0 r1 r2 (by omega) (by omega) (by omega)), ev_bind (laws_heldPair_ev r0.length r1.length r2.length (by omega) (by omega) (by omega)), show ((1 : Int) + (r0.length : Int) + (r1.length : Int) + 2 * (r2.length : Int) < 0) = False from eq_false (by omega), ev_bind (laws_eqPair_ev r0 r1 r2 (by omega) (by omega) (by omega)), bne_self_eq_false]
  refine ev_succ.1 ?_
  simp only [laws_FnExactSettlePair.j2, Bool.false_eq_true, if_false, if_true, ev_bind (laws_heldPair_ev r0.length r1.length r2.length (by omega) (by omega) (by omega)), show ((1 : Int) + (r0.length : Int) + (r1.length : Int) + 2 * (r2.length : Int) < 0) = False from eq_false (by omega)]
  exact Ev.now _

end Go.Proofs.Ytolncjkfcmbieaa.Pure
