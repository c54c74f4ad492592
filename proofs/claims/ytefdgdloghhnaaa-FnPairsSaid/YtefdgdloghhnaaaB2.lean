/- What functions of the program answer, as plain functions: used by the laws of this claim. -/
import Derived.Test.YtefdgdloghhnaaaB0
import Derived.Test.YtefdgdloghhnaaaF2
import Derived.Test.YtefdgdloghhnaaaB1
import Derived.Test.YtefdgdloghhnaaaQFlow
namespace Go.Proofs.Ytefdgdloghhnaaa.Pure
open Go.RowKit Go.Proofs.Ytefdgdloghhnaaa.P Go.Proofs.YtefdgdloghhnaaaW.PrintWords Go.Proofs.Ytefdgdloghhnaaa.Q
set_option linter.unusedVariables false
set_option linter.unusedSimpArgs false

theorem spec_l3Tick_tick (a b c d : Int) (ln : List S36) (hc : inB 0 3 c = true) (hd : inB 0 3 d = true) : Ev (fun k => spec_l3Tick.l0 k 2 0 [a, b] [c, d] ln) ([(tick1 a c).1, (tick1 b d).1], [(tick1 a c).2, (tick1 b d).2], ln) := by
  have l2 : ∀ x y : Int, (([x, y] : List Int).length : Int) = 2 := fun _ _ => rfl
  rw [inB_iff] at hc hd
  have wc : wrap64 (c - 1) = c - 1 := w64 (by omega) (by omega)
  have wd : wrap64 (d - 1) = d - 1 := w64 (by omega) (by omega)
  have h2 : ∀ st lf : List Int, Ev (fun k => spec_l3Tick.l0 k 2 2 st lf ln) (st, lf, ln) := by
    intro st lf
    refine ev_succ.1 ?_
    simp only [spec_l3Tick.l0, Int.lt_irrefl, if_false, ev_some]
  have h1 : ∀ p q : Int, Ev (fun k => spec_l3Tick.l0 k 2 1 [p, b] [q, d] ln) ([p, (tick1 b d).1], [q, (tick1 b d).2], ln) := by
    intro p q
    refine ev_succ.1 ?_
    simp only [spec_l3Tick.l0, l2, show ((1 : Int) < 2) = True from eq_true (by decide), show ((0 : Int) < 2) = True from eq_true (by decide), show ((0 : Int) ≤ 1) = True from eq_true (by decide), show ((0 : Int) ≤ 0) = True from eq_true (by decide), show wrap64 (1 + 1) = 2 from (by unfold wrap64; omega), show wrap64 (0 + 1) = 1 from (by unfold wrap64; omega), show rd [p, b] 1 = b from rfl, show rd [q, d] 1 = d from rfl, if_true, Option.bind_some, wd, ev_ite, show ([q, d].set ((1 : Int)).toNat (d - 1)) = [q, d - 1] from rfl, show rd [q, d - 1] 1 = d - 1 from rfl, show ([p, b].set ((1 : Int)).toNat 0) = [p, 0] from rfl, tick1]
    split
    · rename_i g; exact h2 _ _
    · split
      · exact h2 _ _
      · exact h2 _ _
  refine ev_succ.1 ?_
  simp only [spec_l3Tick.l0, l2, show ((1 : Int) < 2) = True from eq_true (by decide), show ((0 : Int) < 2) = True from eq_true (by decide), show ((0 : Int) ≤ 1) = True from eq_true (by decide), show ((0 : Int) ≤ 0) = True from eq_true (by decide), show wrap64 (1 + 1) = 2 from (by unfold wrap64; omega), show wrap64 (0 + 1) = 1 from (by unfold wrap64; omega), show rd [a, b] 0 = a from rfl, show rd [c, d] 0 = c from rfl, if_true, Option.bind_some, wc, ev_ite, show ([c, d].set ((0 : Int)).toNat (c - 1)) = [c - 1, d] from rfl, show rd [c - 1, d] 0 = c - 1 from rfl, show ([a, b].set ((0 : Int)).toNat 0) = [0, b] from rfl]
  have e : tick1 a c = if a = 0 then (a, c) else if c - 1 = 0 then (0, c - 1) else (a, c - 1) := rfl
  rw [e]
  split
  · exact h1 _ _
  · split
    · exact h1 _ _
    · exact h1 _ _

theorem spec_NextState_eq (a : Int) (b : Bool) (h : inB 0 2 a = true) : spec_NextState.f a b = some (if b then 2 else 1, true) := by
  unfold spec_NextState.f; simp only [spec_l1In_eq, Option.bind_some, h, if_true]; cases b <;> rfl
theorem spec_NextState_all (a : Int) (b : Bool) : spec_NextState.f a b = some (if inB 0 2 a = true then ((if b then 2 else 1), true) else (0, false)) := by
  unfold spec_NextState.f; simp only [spec_l1In_eq, Option.bind_some]; cases inB 0 2 a <;> cases b <;> rfl

end Go.Proofs.Ytefdgdloghhnaaa.Pure
