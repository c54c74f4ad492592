/- What functions of the program answer, as plain functions: used by the laws of this claim. -/
import Derived.Test.YtnoklicihomfoaaB0
import Derived.Test.YtnoklicihomfoaaF41
import Derived.Test.YtnoklicihomfoaaB1
import Derived.Test.YtnoklicihomfoaaB4
import Derived.Test.YtnoklicihomfoaaB5
import Derived.Test.YtnoklicihomfoaaB40
namespace Go.Proofs.Ytnoklicihomfoaa.Pure
open Go.RowKit Go.Proofs.Ytnoklicihomfoaa.P Go.Proofs.YtnoklicihomfoaaW.PrintWords Go.Proofs.Ytnoklicihomfoaa.Q
set_option linter.unusedVariables false
set_option linter.unusedSimpArgs false

theorem laws_toCampus_ev (n : Int) (l : List S86) (d : List Int) (h : List S141) (hl : l.length ≤ 1048576) (hd : d.length ≤ 1048576) (hh : lplSize h ≤ 1048576) : Ev (fun k => laws_toCampus.f k n l d h) (n, l.map toE, d, h.map toPl) := by
  unfold laws_toCampus.f
  simp only [ev_bind (laws_toEdgeS_ev l (by omega)), ev_bind (laws_toIntS_ev d (by omega)), ev_bind (laws_toPlaceS_ev h hh), ev_some]

theorem impl_isHost_eq (a : Int) : impl_isHost.f a = some (inB 1 99 a) := by
  unfold impl_isHost.f
  rw [impl_in_eq]; rfl

end Go.Proofs.Ytnoklicihomfoaa.Pure
