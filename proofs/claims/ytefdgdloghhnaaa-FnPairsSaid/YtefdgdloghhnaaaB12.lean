/- What functions of the program answer, as plain functions: used by the laws of this claim. -/
import Derived.Test.YtefdgdloghhnaaaB0
import Derived.Test.YtefdgdloghhnaaaF12
import Derived.Test.YtefdgdloghhnaaaB7
import Derived.Test.YtefdgdloghhnaaaB8
import Derived.Test.YtefdgdloghhnaaaQFlow
import Derived.Test.YtefdgdloghhnaaaQTree
namespace Go.Proofs.Ytefdgdloghhnaaa.Pure
open Go.RowKit Go.Proofs.Ytefdgdloghhnaaa.P Go.Proofs.YtefdgdloghhnaaaW.PrintWords Go.Proofs.Ytefdgdloghhnaaa.Q
set_option linter.unusedVariables false
set_option linter.unusedSimpArgs false

def playP : List S28 → List Int → List Int → List S36 → List Bool → List Int × List Int × List S36 × List Bool
  | [], st, lf, ln, acc => (st, lf, ln, acc)
  | s :: t, st, lf, ln, acc => if (stepped st lf ln s.f0 s.f1).2.2.2 = true then playP t (stepped st lf ln s.f0 s.f1).1 (stepped st lf ln s.f0 s.f1).2.1 (stepped st lf ln s.f0 s.f1).2.2.1 (acc ++ [true]) else playP t st lf ln (acc ++ [false])
theorem impl_played_loop (t : List S28) : ∀ (p : List S28) (st lf : List Int) (ln : List S36) (acc : List Bool), (p ++ t).length ≤ 1048576 → ln.length ≤ 1048576 → acc.length = p.length → Ev (fun k => impl_played.l0 k acc (p ++ t) ((p ++ t).length : Int) (p.length : Int) st lf ln) (playP t st lf ln acc) := by
  induction t with
  | nil =>
    intro p st lf ln acc _ _ _
    refine ev_succ.1 ?_
    simp only [impl_played.l0, c_end, Int.lt_irrefl, if_false, ev_some, playP]
  | cons x t ih =>
    intro p st lf ln acc hb hl ha
    refine ev_succ.1 ?_
    have hlen := stepped_len st lf ln x.f0 x.f1
    have hbp : p.length ≤ 1048576 := by simp at hb; omega
    simp only [impl_played.l0, c_lt, c_nn, rdPairStep_at, c_next _ _ _ (by omega : (p ++ x :: t).length ≤ 9223372036854775806), if_true, ev_bind (impl_StepPair_ev st lf ln x.f0 x.f1 hl), show (acc.length < 140737488355328) = True from eq_true (by omega), ev_ite, playP]
    by_cases hok : (stepped st lf ln x.f0 x.f1).2.2.2 = true
    · simp only [hok, if_true]
      have := ih (p ++ [x]) (stepped st lf ln x.f0 x.f1).1 (stepped st lf ln x.f0 x.f1).2.1 (stepped st lf ln x.f0 x.f1).2.2.1 (acc ++ [true]) (by rwa [← c_app]) (by omega) (by simp [ha])
      rw [← c_app] at this
      exact this
    · have hok' : (stepped st lf ln x.f0 x.f1).2.2.2 = false := by simpa using hok
      simp only [hok', Bool.false_eq_true, if_false]
      have := ih (p ++ [x]) st lf ln (acc ++ [false]) (by rwa [← c_app]) hl (by simp [ha])
      rw [← c_app] at this
      exact this
theorem impl_played_ev (l : List S28) (st lf : List Int) (ln : List S36) (h : l.length ≤ 1048576) (hl : ln.length ≤ 1048576) : Ev (fun k => impl_played.f k st lf ln l) (playP l st lf ln []) := impl_played_loop l [] st lf ln [] h hl rfl
def settledV (st lf : List Int) (ln : List S36) : List Int × List Int × List S36 × Bool := if goodP st lf ln = true then ((playP [⟨1, 0⟩, ⟨2, 0⟩, ⟨1, 1⟩, ⟨2, 0⟩, ⟨1, 0⟩, ⟨2, 0⟩] st lf [] []).1, (playP [⟨1, 0⟩, ⟨2, 0⟩, ⟨1, 1⟩, ⟨2, 0⟩, ⟨1, 0⟩, ⟨2, 0⟩] st lf [] []).2.1, [], true) else nilP
theorem st_say {a b c d k : Int} (gd : goodP [a, b] [c, d] [] = true) (hk : k = 0 ∨ k = 1) : stepped [a, b] [c, d] [] 1 k = ([a, b], [c, d], [⟨k, rd [a, b] k != 0⟩], true) := by
  unfold stepped
  rw [if_pos gd]
  have : inB 0 1 k = true := inB_iff.2 (by omega)
  simp [stepP, this]
theorem st_take0 {a b c d : Int} {h : Bool} (gd : goodP [a, b] [c, d] [⟨0, h⟩] = true) : stepped [a, b] [c, d] [⟨0, h⟩] 2 0 = ([a, if h then 2 else 1], [c, 3], [], true) := by
  unfold stepped
  rw [if_pos gd]
  simp [stepP, rd_T36]
theorem st_take1 {a b c d : Int} {h : Bool} (gd : goodP [a, b] [c, d] [⟨1, h⟩] = true) : stepped [a, b] [c, d] [⟨1, h⟩] 2 0 = ([if h then 2 else 1, b], [3, d], [], true) := by
  unfold stepped
  rw [if_pos gd]
  simp [stepP, rd_T36]
theorem good_line {a b c d k : Int} {h : Bool} (g : goodP [a, b] [c, d] [] = true) (hk : k = 0 ∨ k = 1) : goodP [a, b] [c, d] [⟨k, h⟩] = true := by
  have : inB 0 1 k = true := inB_iff.2 (by omega)
  simp only [goodP, Bool.and_eq_true] at g ⊢
  exact ⟨by simp, g.2.1, g.2.2.1, by simp [this]⟩
theorem good_r {a b c d n : Int} (g : goodP [a, b] [c, d] [] = true) (hn : n = 1 ∨ n = 2) : goodP [a, n] [c, 3] [] = true := by
  simp only [goodP, Bool.and_eq_true] at g ⊢
  refine ⟨by simp, g.2.1, ⟨⟨?_, by decide⟩, ?_⟩, rfl⟩
  · exact inB_iff.2 (by omega)
  · rcases hn with rfl | rfl <;> decide
theorem good_l {a b c d n : Int} (g : goodP [a, b] [c, d] [] = true) (hn : n = 1 ∨ n = 2) : goodP [n, b] [3, d] [] = true := by
  simp only [goodP, Bool.and_eq_true] at g ⊢
  refine ⟨by simp, ⟨⟨?_, by decide⟩, ?_⟩, g.2.2.1, rfl⟩
  · exact inB_iff.2 (by omega)
  · rcases hn with rfl | rfl <;> decide
theorem settled2 {st lf : List Int} {ln : List S36} (g : goodP st lf ln = true) : (playP [⟨1, 0⟩, ⟨2, 0⟩, ⟨1, 1⟩, ⟨2, 0⟩, ⟨1, 0⟩, ⟨2, 0⟩] st lf [] []) = ([2, 2], [3, 3], [], [true, true, true, true, true, true]) := by
  obtain ⟨a, b, c, d, rfl, rfl⟩ := goodP_two g
  have g0 : goodP [a, b] [c, d] [] = true := by
    simp only [goodP, Bool.and_eq_true, decide_eq_true_eq] at g ⊢
    exact ⟨by simp, g.2.1, g.2.2.1, rfl⟩
  have n1 : ∀ h : Bool, (if h then (2 : Int) else 1) = 1 ∨ (if h then (2 : Int) else 1) = 2 := by intro h; cases h <;> simp
  have nz : ∀ h : Bool, ((if h then (2 : Int) else 1) != 0) = true := by intro h; cases h <;> rfl
  have g1 := good_r g0 (n1 (a != 0))
  have g2 := good_l g1 (Or.inr rfl : (2 : Int) = 1 ∨ (2 : Int) = 2)
  simp only [playP, st_say g0 (Or.inl rfl), show rd [a, b] 0 = a from rfl, st_take0 (good_line g0 (Or.inl rfl)), if_true]
  simp only [st_say g1 (Or.inr rfl), show rd [a, if (a != 0) = true then (2 : Int) else 1] 1 = (if (a != 0) = true then (2 : Int) else 1) from rfl, nz, st_take1 (good_line g1 (Or.inr rfl)), if_true]
  simp only [st_say g2 (Or.inl rfl), show rd [(2 : Int), if (a != 0) = true then (2 : Int) else 1] 0 = 2 from rfl, show ((2 : Int) != 0) = true from rfl, st_take0 (good_line g2 (Or.inl rfl)), if_true]
  rfl

theorem impl_SettlePair_ev (st lf : List Int) (ln : List S36) (h0 : st.length ≤ 1048576) (h1 : lf.length ≤ 1048576) (h2 : ln.length ≤ 1048576) : Ev (fun k => impl_SettlePair.f k st lf ln) (settledV st lf ln) := by
  unfold impl_SettlePair.f settledV
  simp only [ev_bind (impl_GoodPair_ev st lf ln (by omega))]
  cases g : goodP st lf ln
  · simp only [Bool.false_eq_true, if_false, ev_some]; rfl
  · have e := settled2 g
    simp only [if_true, impl_Pair_own_eq st lf ln (by omega) (by omega) (by omega), Option.bind_some, ev_bind (impl_played_ev [⟨1, 0⟩, ⟨2, 0⟩, ⟨1, 1⟩, ⟨2, 0⟩, ⟨1, 0⟩, ⟨2, 0⟩] st lf [] (by simp) (by simp)), ev_some]
    rw [e]

end Go.Proofs.Ytefdgdloghhnaaa.Pure
