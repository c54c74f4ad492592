/- What functions of the program answer, as plain functions: used by the laws of this claim. -/
import Derived.Test.YtpohlcjkabojcaaB0
import Derived.Test.YtpohlcjkabojcaaF7
import Derived.Test.YtpohlcjkabojcaaB6
namespace Go.Proofs.Ytpohlcjkabojcaa.Pure
open Go.RowKit Go.Proofs.Ytpohlcjkabojcaa.P Go.Proofs.YtpohlcjkabojcaaW.PrintWords Go.Proofs.Ytpohlcjkabojcaa.Q
set_option linter.unusedVariables false
set_option linter.unusedSimpArgs false

theorem laws_eqCampus_ev (n : Int) (l : List S86) (d : List Int) (h : List S130) (hl : l.length ≤ 1000000000) (hd : d.length ≤ 1000000000) (hh : plSize h ≤ 1000000000) : Ev (fun k => laws_eqCampus.f k n l d h n l d h) true := by
  unfold laws_eqCampus.f
  simp only [if_true, ev_bind (laws_eqEdgeS_ev l (by omega)), ev_bind (laws_eqIntS_ev d (by omega)), ev_bind (laws_eqPlaceS_ev h (by omega)), ev_some]

end Go.Proofs.Ytpohlcjkabojcaa.Pure
