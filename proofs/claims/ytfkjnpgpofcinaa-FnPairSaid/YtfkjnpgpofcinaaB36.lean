/- What functions of the program answer, as plain functions: used by the laws of this claim. -/
import Derived.Test.YtfkjnpgpofcinaaB0
import Derived.Test.YtfkjnpgpofcinaaF36
import Derived.Test.YtfkjnpgpofcinaaB1
import Derived.Test.YtfkjnpgpofcinaaB20
import Derived.Test.YtfkjnpgpofcinaaB24
import Derived.Test.YtfkjnpgpofcinaaB25
import Derived.Test.YtfkjnpgpofcinaaB26
import Derived.Test.YtfkjnpgpofcinaaB29
import Derived.Test.YtfkjnpgpofcinaaB30
namespace Go.Proofs.Ytfkjnpgpofcinaa.Pure
open Go.RowKit Go.Proofs.Ytfkjnpgpofcinaa.P Go.Proofs.YtfkjnpgpofcinaaW.PrintWords Go.Proofs.Ytfkjnpgpofcinaa.Q
set_option linter.unusedVariables false
set_option linter.unusedSimpArgs false

theorem spec_DrawPlayPair_ok (l : List Int) (hl : bytesL l) : ∃ r, Ev (fun k => spec_DrawPlayPair.f k l) r ∧ r.length ≤ 100 := by
  obtain ⟨r, a, s, he, k0, _, _⟩ := spec_l1Cur_pairSteps_ok l hl 0 0 (by omega) (by omega)
  refine ⟨r, ?_, k0⟩
  unfold spec_DrawPlayPair.f
  simp only [slices_xorshift_Next_eq, Option.bind_some, ev_bind he, ev_some]

theorem impl_PlayPair_ev (l : List S37) : Ev (fun k => impl_PlayPair.f k l) (playedV l) := by
  unfold impl_PlayPair.f playedV
  by_cases h : (l.length : Int) > 60
  · simp only [h, if_true, ev_some]
  · simp only [h, if_false, impl_NewPair_eq, Option.bind_some, ev_bind (impl_played_ev l [0, 0] [0, 0] [] (by omega) (by simp)), ev_some]

theorem rdB_at2 (p : List Bool) (x : Bool) (t : List Bool) : rdOf false (p ++ x :: t) (p.length : Int) = x := by simp [rdOf]
theorem laws_sameBools_loop (t : List Bool) : ∀ p : List Bool, (p ++ t).length ≤ 9223372036854775806 → Ev (fun k => laws_sameBools.l0 k (p ++ t) (p ++ t) ((p ++ t).length : Int) (p.length : Int)) true := by
  induction t with
  | nil =>
    intro p _
    refine ev_succ.1 ?_
    simp only [laws_sameBools.l0, c_end, Int.lt_irrefl, if_false, ev_some]
  | cons x t ih =>
    intro p hb
    refine ev_succ.1 ?_
    simp only [laws_sameBools.l0, c_lt, c_nn, rdB_at2, bne_self_eq_false, Bool.false_eq_true, if_false, c_next _ _ _ hb, if_true]
    rw [c_app p x t]
    exact ih (p ++ [x]) (by rwa [← c_app])
theorem laws_sameBools_ev (l : List Bool) (h : l.length ≤ 9223372036854775806) : Ev (fun k => laws_sameBools.f k l l) true := by
  unfold laws_sameBools.f
  simp only [if_true]
  exact laws_sameBools_loop l [] h

theorem spec_DrawNextState_ok (l : List Int) (hl : bytesL l) : ∃ n b, spec_DrawNextState.f l = some (n, b) := by
  obtain ⟨v, a, s, e, _, _, g0, g1⟩ := spec_l1Cur_pick_ok l 0 0 5 hl (by omega) (by omega) (by omega)
  obtain ⟨v2, a2, s2, e2, _, _⟩ := spec_l1Cur_one_ok l a s 2 hl (by omega) (by omega) (by omega)
  exact ⟨wrap64 (v - 1), v2, by unfold spec_DrawNextState.f; simp only [slices_xorshift_Next_eq, Option.bind_some, e, e2]⟩

theorem impl_NextState_eq (a : Int) (b : Bool) : impl_NextState.f a b = some (if inB 0 2 a = true then ((if b then 2 else 1), true) else (0, false)) := by
  unfold impl_NextState.f
  simp only [impl_in_eq, Option.bind_some, impl_nextState_eq]
  cases inB 0 2 a <;> rfl

end Go.Proofs.Ytfkjnpgpofcinaa.Pure
