/- The plain statement behind the law FnExactWantsOn: for all arguments it answers true. -/
import Derived.Test.YtfkjnpgpofcinaaB0
import Derived.Test.YtfkjnpgpofcinaaF6
import Derived.Test.YtfkjnpgpofcinaaB3
import Derived.Test.YtfkjnpgpofcinaaB4
import Derived.Test.YtfkjnpgpofcinaaB5
import Derived.Test.YtfkjnpgpofcinaaQForest
import Derived.Test.YtfkjnpgpofcinaaQTree
namespace Go.Proofs.Ytfkjnpgpofcinaa.Pure
open Go.RowKit Go.Proofs.Ytfkjnpgpofcinaa.P Go.Proofs.YtfkjnpgpofcinaaW.PrintWords Go.Proofs.Ytfkjnpgpofcinaa.Q
set_option linter.unusedVariables false
set_option linter.unusedSimpArgs false

theorem FnExactWantsOn (l : List Int) (a : Int) (m : List Int) (hG : l.length ≤ maxLen ∧ ∀ y ∈ l, (Lit.int .i64 y).wf = true) (ha : (Lit.int .i64 a).wf = true) (hM : m.length ≤ maxLen ∧ ∀ y ∈ m, (Lit.int .i64 y).wf = true) : ∃ k, laws_FnExactWantsOn.f k l a m = some true := by
  refine Ev.rounds ?_
  unfold laws_FnExactWantsOn.f
  by_cases hbig : (l.length : Int) > 1048576
  · simp only [hbig, if_true]; exact Ev.now _
  by_cases hbig2 : (m.length : Int) > 1048576
  · simp only [hbig, hbig2, if_true, if_false]; exact Ev.now _
  have hv1 : (if (goodP l && (inB 0 ((l.length : Int) - 1) a && (allB 0 11 m && chainB none m))) = true then ((allH l a).filter (wantS l m), true) else ([], false)).1.length ≤ 1048576 := by
    split
    · rename_i h
      simp only [Bool.and_eq_true] at h
      obtain ⟨F, hl⟩ := goodP_forest h.1
      have hi := inB_iff.1 h.2.1
      have := allH_length F (a := a) (by omega) (by omega)
      have := List.length_filter_le (wantS l m) (allH l a)
      simp only; omega
    · simp
  have hi := impl_WantsOn_ev l a m (by omega) (by omega)
  simp only [hbig, hbig2, if_false, ev_bind (laws_toIntS_ev l (by omega)), ev_bind (laws_toIntS_ev m (by omega)), ev_bind (spec_WantsOn_ev l a m (by omega) (by omega)), ev_bind hi]
  generalize (if (goodP l && (inB 0 ((l.length : Int) - 1) a && (allB 0 11 m && chainB none m))) = true then ((allH l a).filter (wantS l m), true) else ([], false)) = v at hv1 hi ⊢
  obtain ⟨r1, r2⟩ := v
  simp only at hv1
  simp only [ev_bind (laws_eqHopS_ev r1 (by omega)), if_true, bne_self_eq_false]
  refine ev_succ.1 ?_
  simp only [laws_FnExactWantsOn.j0, Bool.false_eq_true, if_false, if_true, bne_self_eq_false, ev_bind (laws_toIntS_ev l (by omega)), ev_bind (laws_toIntS_ev m (by omega)), ev_bind (laws_eqIntS_ev l (by omega)), ev_bind (laws_eqIntS_ev m (by omega)), ev_bind (laws_eqHopS_ev r1 (by omega)), ev_bind (laws_markIntS_ev l 1 (by omega) (by omega) (by omega)), ev_bind (laws_markIntS_ev m (1 + (l.length : Int)) (by omega) (by omega) (by omega)), show (1 + (l.length : Int) + (m.length : Int) < 0) = False from eq_false (by omega)]
  refine ev_succ.1 ?_
  simp only [laws_FnExactWantsOn.j1, Bool.false_eq_true, if_false, if_true, bne_self_eq_false, ev_bind (laws_markHopS_ev r1 1 (by omega) (by omega) (by omega)), ev_bind (laws_heldHopS_ev r1.length 1 (by omega) (by omega) (by omega)), show (1 + 2 * (r1.length : Int) < 0) = False from eq_false (by omega), ev_bind (laws_toIntS_ev l (by omega)), ev_bind (laws_toIntS_ev m (by omega)), ev_bind hi, ev_bind (laws_eqHopS_ev r1 (by omega))]
  refine ev_succ.1 ?_
  simp only [laws_FnExactWantsOn.j2, Bool.false_eq_true, if_false, if_true, bne_self_eq_false, ev_bind (laws_heldHopS_ev r1.length 1 (by omega) (by omega) (by omega)), show (1 + 2 * (r1.length : Int) < 0) = False from eq_false (by omega)]
  exact Ev.now _

end Go.Proofs.Ytfkjnpgpofcinaa.Pure
