/- What functions of the program answer, as plain functions: used by the laws of this claim. -/
import Derived.Test.YtolncjkfcmbieaaB0
import Derived.Test.YtolncjkfcmbieaaF46
import Derived.Test.YtolncjkfcmbieaaB37
namespace Go.Proofs.Ytolncjkfcmbieaa.Pure
open Go.RowKit Go.Proofs.Ytolncjkfcmbieaa.P Go.Proofs.YtolncjkfcmbieaaW.PrintWords Go.Proofs.Ytolncjkfcmbieaa.Q
set_option linter.unusedVariables false
set_option linter.unusedSimpArgs false

def playP : List S51 → List Int → List Int → List S127 → List Bool → List Int × List Int × List S127 × List Bool
  | [], st, lf, ln, acc => (st, lf, ln, acc)
  | s :: t, st, lf, ln, acc => if (stepped st lf ln s.f0 s.f1).2.2.2 = true then playP t (stepped st lf ln s.f0 s.f1).1 (stepped st lf ln s.f0 s.f1).2.1 (stepped st lf ln s.f0 s.f1).2.2.1 (acc ++ [true]) else playP t st lf ln (acc ++ [false])
theorem impl_played_loop (t : List S51) : ∀ (p : List S51) (st lf : List Int) (ln : List S127) (acc : List Bool), (p ++ t).length ≤ 1048576 → ln.length ≤ 1048576 → acc.length = p.length → Ev (fun k => impl_played.l0 k acc (p ++ t) ((p ++ t).length : Int) (p.length : Int) st lf ln) (playP t st lf ln acc) := by
  induction t with
  | nil =>
    intro p st lf ln acc _ _ _
    refine ev_succ.1 ?_
    simp only [impl_played.l0, c_end, Int.lt_irrefl, if_false, ev_some, playP]
  | cons x t ih =>
    intro p st lf ln acc hb hl ha
    refine ev_succ.1 ?_
    have hlen := stepped_len st lf ln x.f0 x.f1
    have hbp : p.length ≤ 1048576 := by simp at hb; omega
    simp only [impl_played.l0, c_lt, c_nn, rdPairStep_at, c_next _ _ _ (by omega : (p ++ x :: t).length ≤ 9223372036854775806), if_true, ev_bind (impl_StepPair_ev st lf ln x.f0 x.f1 hl), show (acc.length < 140737488355328) = True from eq_true (by omega), ev_ite, playP]
    by_cases hok : (stepped st lf ln x.f0 x.f1).2.2.2 = true
    · simp only [hok, if_true]
      have := ih (p ++ [x]) (stepped st lf ln x.f0 x.f1).1 (stepped st lf ln x.f0 x.f1).2.1 (stepped st lf ln x.f0 x.f1).2.2.1 (acc ++ [true]) (by rwa [← c_app]) (by omega) (by simp [ha])
      rw [← c_app] at this
      exact this
    · have hok' : (stepped st lf ln x.f0 x.f1).2.2.2 = false := by simpa using hok
      simp only [hok', Bool.false_eq_true, if_false]
      have := ih (p ++ [x]) st lf ln (acc ++ [false]) (by rwa [← c_app]) hl (by simp [ha])
      rw [← c_app] at this
      exact this
theorem impl_played_ev (l : List S51) (st lf : List Int) (ln : List S127) (h : l.length ≤ 1048576) (hl : ln.length ≤ 1048576) : Ev (fun k => impl_played.f k st lf ln l) (playP l st lf ln []) := impl_played_loop l [] st lf ln [] h hl rfl

end Go.Proofs.Ytolncjkfcmbieaa.Pure
