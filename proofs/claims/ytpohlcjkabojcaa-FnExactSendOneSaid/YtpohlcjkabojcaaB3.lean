/- What functions of the program answer, as plain functions: used by the laws of this claim. -/
import Derived.Test.YtpohlcjkabojcaaB0
import Derived.Test.YtpohlcjkabojcaaF3
import Derived.Test.YtpohlcjkabojcaaB2
namespace Go.Proofs.Ytpohlcjkabojcaa.Pure
open Go.RowKit Go.Proofs.Ytpohlcjkabojcaa.P Go.Proofs.YtpohlcjkabojcaaW.PrintWords Go.Proofs.Ytpohlcjkabojcaa.Q
set_option linter.unusedVariables false
set_option linter.unusedSimpArgs false

theorem laws_toCampus_ev (n : Int) (l : List S105) (d : List Int) (h : List S129) (hl : l.length ≤ 1048576) (hd : d.length ≤ 1048576) (hh : lplSize h ≤ 1048576) : Ev (fun k => laws_toCampus.f k n l d h) (n, l.map toE, d, h.map toPl) := by
  unfold laws_toCampus.f
  simp only [ev_bind (laws_toEdgeS_ev l (by omega)), ev_bind (laws_toIntS_ev d (by omega)), ev_bind (laws_toPlaceS_ev h hh), ev_some]

theorem impl_in_eq (a b c : Int) : impl_in.f a b c = some (inB b c a) := by
  unfold impl_in.f inB
  by_cases h1 : a ≥ b <;> by_cases h2 : a ≤ c <;> simp [h1, h2] <;> omega


theorem impl_isSpots_eq (a : Int) : impl_isSpots.f a = some (inB 1 12 a) := by
  unfold impl_isSpots.f
  rw [impl_in_eq]; rfl

end Go.Proofs.Ytpohlcjkabojcaa.Pure
