/- The plain statement behind the law FnPair: for all arguments it answers true. -/
import Derived.Test.YtfkjnpgpofcinaaB0
import Derived.Test.YtfkjnpgpofcinaaF37
import Derived.Test.YtfkjnpgpofcinaaB20
import Derived.Test.YtfkjnpgpofcinaaB21
import Derived.Test.YtfkjnpgpofcinaaB24
import Derived.Test.YtfkjnpgpofcinaaB25
import Derived.Test.YtfkjnpgpofcinaaB27
import Derived.Test.YtfkjnpgpofcinaaB28
import Derived.Test.YtfkjnpgpofcinaaB29
import Derived.Test.YtfkjnpgpofcinaaB36
import Derived.Test.YtfkjnpgpofcinaaQTree
namespace Go.Proofs.Ytfkjnpgpofcinaa.Pure
open Go.RowKit Go.Proofs.Ytfkjnpgpofcinaa.P Go.Proofs.YtfkjnpgpofcinaaW.PrintWords Go.Proofs.Ytfkjnpgpofcinaa.Q
set_option linter.unusedVariables false
set_option linter.unusedSimpArgs false

theorem FnPair_ends (m : List Int) (hm : bytesL m) : Ev (fun k => (spec_DrawNextState.f m).bind fun b1 => ((impl_NextState.f b1.1 b1.2).bind fun b2 => ((spec_NextState.f b1.1 b1.2).bind fun b3 => (if (b2.2 == b3.2) = true then (some (b2.1 == b3.1)) else (some false))))) true := by
  obtain ⟨n, b, e⟩ := spec_DrawNextState_ok m hm
  simp only [e, Option.bind_some, impl_NextState_eq, spec_NextState_all, beq_self_eq_true, if_true]
  exact Ev.now _
theorem FnPair_last (m : List Int) (hm : bytesL m) : Ev (fun k => laws_FnPair.l0 k m 0 [2, 2] [3, 3] []) true := by
  have e1 : stepped [2, 2] [3, 3] [] 4 0 = ([2, 2], [2, 2], [], true) := by simp [stepped, stepP, goodP, tick1, inB]
  have e2 : stepped [2, 2] [2, 2] [] 4 0 = ([2, 2], [1, 1], [], true) := by simp [stepped, stepP, goodP, tick1, inB]
  have e3 : stepped [2, 2] [1, 1] [] 4 0 = ([0, 0], [0, 0], [], true) := by simp [stepped, stepP, goodP, tick1, inB]
  have s1 := impl_StepPair_ev [2, 2] [3, 3] [] 4 0 (by simp)
  have s2 := impl_StepPair_ev [2, 2] [2, 2] [] 4 0 (by simp)
  have s3 := impl_StepPair_ev [2, 2] [1, 1] [] 4 0 (by simp)
  rw [e1] at s1
  rw [e2] at s2
  rw [e3] at s3
  refine ev_succ.1 ?_
  simp only [laws_FnPair.l0, show ((0 : Int) < 3) = True from eq_true (by omega), if_true, ev_bind s1, show wrap64 (0 + 1) = 1 from w64 (by omega) (by omega)]
  refine ev_succ.1 ?_
  simp only [laws_FnPair.l0, show ((1 : Int) < 3) = True from eq_true (by omega), if_true, ev_bind s2, show wrap64 (1 + 1) = 2 from w64 (by omega) (by omega)]
  refine ev_succ.1 ?_
  simp only [laws_FnPair.l0, show ((2 : Int) < 3) = True from eq_true (by omega), if_true, ev_bind s3, show wrap64 (2 + 1) = 3 from w64 (by omega) (by omega)]
  refine ev_succ.1 ?_
  simp only [laws_FnPair.l0, show ((3 : Int) < 3) = False from eq_false (by omega), if_false, ev_bind (laws_sameInts_ev [0, 0] (by simp)), if_true]
  exact FnPair_ends m hm
theorem FnPair (l m : List Int) (hG : l.length ≤ maxLen ∧ ∀ y ∈ l, (Lit.int .u8 y).wf = true) (hM : m.length ≤ maxLen ∧ ∀ y ∈ m, (Lit.int .u8 y).wf = true) : ∃ k, laws_FnPair.f k l m = some true := by
  refine Ev.rounds ?_
  have hl := bytesL_wf hG.2
  have hm := bytesL_wf hM.2
  unfold laws_FnPair.f
  by_cases hbig : wrap64 ((l.length : Int) + (m.length : Int)) > 1048576
  · simp only [hbig, if_true]; exact Ev.now _
  obtain ⟨r, hr, hrl⟩ := spec_DrawPlayPair_ok l hl
  have hi := impl_PlayPair_ev r
  have hs := spec_PlayPair_ev r
  have hlen := playedV_len r
  simp only [hbig, if_false, ev_bind hr, ev_bind hi, ev_bind hs, bne_self_eq_false, Bool.false_eq_true, ev_bind (laws_sameBools_ev (playedV r).2.2.2.1 (by omega)), if_true, ev_bind (laws_samePair_ev (playedV r).1 (playedV r).2.1 (playedV r).2.2.1 (by omega) (by omega) (by omega)), Bool.not_true]
  refine ev_succ.1 ?_
  simp only [laws_FnPair.j0, Bool.false_eq_true, if_false]
  by_cases h : (r.length : Int) > 60
  · have e : playedV r = ([], [], [], [], false) := by unfold playedV; rw [if_pos h]
    simp only [e, Bool.false_eq_true, if_false]
    exact FnPair_ends m hm
  · have g := playP_good r [0, 0] [0, 0] [] [] rfl
    have e : playedV r = ((playP r [0, 0] [0, 0] [] []).1, (playP r [0, 0] [0, 0] [] []).2.1, (playP r [0, 0] [0, 0] [] []).2.2.1, (playP r [0, 0] [0, 0] [] []).2.2.2, true) := by unfold playedV; rw [if_neg h]
    rw [e] at hlen ⊢
    simp only at hlen ⊢
    generalize (playP r [0, 0] [0, 0] [] []).1 = st at g hlen ⊢
    generalize (playP r [0, 0] [0, 0] [] []).2.1 = lf at g hlen ⊢
    generalize (playP r [0, 0] [0, 0] [] []).2.2.1 = ln at g hlen ⊢
    have hset := impl_SettlePair_ev st lf ln (by omega) (by omega) (by omega)
    have hv : settledV st lf ln = ([2, 2], [3, 3], [], true) := by unfold settledV; rw [if_pos g, settled2 g]
    rw [hv] at hset
    have hboth := impl_AreBoth_two 2 2 3 3 [] (by simp [goodP, inB])
    simp only [if_true, ev_bind hset, ev_bind hboth, ev_bind (impl_GoodPair_ev st lf ln (by omega)), g, and_self, decide_true, Bool.not_true]
    refine ev_succ.1 ?_
    simp only [laws_FnPair.j1, Bool.false_eq_true, if_false]
    exact FnPair_last m hm

end Go.Proofs.Ytfkjnpgpofcinaa.Pure
