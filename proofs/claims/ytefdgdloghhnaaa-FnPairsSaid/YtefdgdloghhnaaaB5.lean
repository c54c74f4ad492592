/- What functions of the program answer, as plain functions: used by the laws of this claim. -/
import Derived.Test.YtefdgdloghhnaaaB0
import Derived.Test.YtefdgdloghhnaaaF5
import Derived.Test.YtefdgdloghhnaaaB1
import Derived.Test.YtefdgdloghhnaaaB3
import Derived.Test.YtefdgdloghhnaaaB4
import Derived.Test.YtefdgdloghhnaaaB12
import Derived.Test.YtefdgdloghhnaaaQFlow
import Derived.Test.YtefdgdloghhnaaaQTree
namespace Go.Proofs.Ytefdgdloghhnaaa.Pure
open Go.RowKit Go.Proofs.Ytefdgdloghhnaaa.P Go.Proofs.YtefdgdloghhnaaaW.PrintWords Go.Proofs.Ytefdgdloghhnaaa.Q
set_option linter.unusedVariables false
set_option linter.unusedSimpArgs false

theorem playP_good (t : List S28) : ∀ (st lf : List Int) (ln : List S36) (acc : List Bool), goodP st lf ln = true → goodP (playP t st lf ln acc).1 (playP t st lf ln acc).2.1 (playP t st lf ln acc).2.2.1 = true := by
  induction t with
  | nil => intro st lf ln acc g; exact g
  | cons x t ih =>
    intro st lf ln acc g
    obtain ⟨a, b, c, d, rfl, rfl⟩ := goodP_two g
    simp only [playP, stepped_two _ _ _ _ _ _ _ g]
    split
    · rename_i hok
      exact ih _ _ _ _ (good_step g hok)
    · exact ih _ _ _ _ g
theorem playP_acc (t : List S28) : ∀ (st lf : List Int) (ln : List S36) (acc : List Bool), (playP t st lf ln acc).2.2.2.length = acc.length + t.length := by
  induction t with
  | nil => intro st lf ln acc; rfl
  | cons x t ih =>
    intro st lf ln acc
    simp only [playP]
    split <;> rw [ih] <;> simp <;> omega
theorem spec_PlayPair_loop (t : List S28) : ∀ (p : List S28) (st lf : List Int) (ln : List S36) (acc : List Bool), (p ++ t).length ≤ 1048576 → goodP st lf ln = true → acc.length = p.length → Ev (fun k => spec_PlayPair.l0 k acc (p ++ t) ((p ++ t).length : Int) (p.length : Int) st lf ln) ((playP t st lf ln acc).1, (playP t st lf ln acc).2.1, (playP t st lf ln acc).2.2.1, (playP t st lf ln acc).2.2.2, true) := by
  induction t with
  | nil =>
    intro p st lf ln acc _ g _
    have gl := goodP_ln g
    obtain ⟨a, b, c, d, rfl, rfl⟩ := goodP_two g
    refine ev_succ.1 ?_
    simp only [spec_PlayPair.l0, c_end, Int.lt_irrefl, if_false, spec_l3Own_eq [a, b] [c, d] ln (by simp) (by simp) (by omega), Option.bind_some, ev_some, playP]
  | cons x t ih =>
    intro p st lf ln acc hb g ha
    have gl := goodP_ln g
    obtain ⟨a, b, c, d, rfl, rfl⟩ := goodP_two g
    obtain ⟨v, hv, hc⟩ := spec_l3Step_ev a b c d ln x.f0 x.f1 g
    have hbp : p.length ≤ 1048576 := by simp at hb; omega
    refine ev_succ.1 ?_
    simp only [spec_PlayPair.l0, c_lt, c_nn, rdPairStep_at, c_next _ _ _ (by omega : (p ++ x :: t).length ≤ 9223372036854775806), if_true, spec_l3Own_eq [a, b] [c, d] ln (by simp) (by simp) (by omega), Option.bind_some, ev_bind hv, show (acc.length < 140737488355328) = True from eq_true (by omega), ev_ite, playP, stepped_two _ _ _ _ _ _ _ g]
    rcases hc with ⟨hok, rfl⟩ | ⟨hno, hn⟩
    · simp only [hok, if_true]
      have := ih (p ++ [x]) _ _ _ (acc ++ [true]) (by rwa [← c_app]) (good_step g hok) (by simp [ha])
      rw [← c_app] at this
      exact this
    · simp only [hno, hn, nilP, Bool.false_eq_true, if_false]
      have := ih (p ++ [x]) [a, b] [c, d] ln (acc ++ [false]) (by rwa [← c_app]) g (by simp [ha])
      rw [← c_app] at this
      exact this
def playedV (l : List S28) : List Int × List Int × List S36 × List Bool × Bool := if (l.length : Int) > 60 then ([], [], [], [], false) else ((playP l [0, 0] [0, 0] [] []).1, (playP l [0, 0] [0, 0] [] []).2.1, (playP l [0, 0] [0, 0] [] []).2.2.1, (playP l [0, 0] [0, 0] [] []).2.2.2, true)
theorem playedV_len (l : List S28) : (playedV l).1.length ≤ 2 ∧ (playedV l).2.1.length ≤ 2 ∧ (playedV l).2.2.1.length ≤ 12 ∧ (playedV l).2.2.2.1.length ≤ 60 := by
  unfold playedV
  split
  · simp
  · have g := playP_good l [0, 0] [0, 0] [] [] rfl
    have ha := playP_acc l [0, 0] [0, 0] [] []
    have gl := goodP_ln g
    obtain ⟨a, b, c, d, e1, e2⟩ := goodP_two g
    simp only [e1, e2, ha]
    simp only [List.length_cons, List.length_nil]
    exact ⟨by omega, by omega, gl, by omega⟩
theorem spec_PlayPair_ev (l : List S28) : Ev (fun k => spec_PlayPair.f k l) (playedV l) := by
  unfold spec_PlayPair.f playedV
  by_cases h : (l.length : Int) > 60
  · simp only [h, if_true, ev_some]
  · simp only [h, if_false, spec_NewPair_eq, Option.bind_some]
    exact spec_PlayPair_loop l [] [0, 0] [0, 0] [] [] (by simp; omega) rfl rfl

end Go.Proofs.Ytefdgdloghhnaaa.Pure
