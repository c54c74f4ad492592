/- What functions of the program answer, as plain functions: used by the laws of this claim. -/
import Derived.Test.YtnoklicihomfoaaB0
import Derived.Test.YtnoklicihomfoaaF38
import Derived.Test.YtnoklicihomfoaaB2
import Derived.Test.YtnoklicihomfoaaB10
namespace Go.Proofs.Ytnoklicihomfoaa.Pure
open Go.RowKit Go.Proofs.Ytnoklicihomfoaa.P Go.Proofs.YtnoklicihomfoaaW.PrintWords Go.Proofs.Ytnoklicihomfoaa.Q
set_option linter.unusedVariables false
set_option linter.unusedSimpArgs false

theorem laws_eqPlace_ev (x y : Int) (l : List Int) (h : l.length ≤ 9223372036854775806) : Ev (fun k => laws_eqPlace.f k x y l x y l) true := by
  unfold laws_eqPlace.f
  simp only [if_true, ev_bind (laws_eqIntS_ev l h), ev_some]

theorem laws_eqPlaceS_loop (t : List S118) : ∀ p : List S118, (p ++ t).length ≤ 9223372036854775806 → (∀ x ∈ t, x.f2.length ≤ 9223372036854775806) → Ev (fun k => laws_eqPlaceS.l0 k (p ++ t) (p ++ t) (p.length : Int)) true := by
  induction t with
  | nil =>
    intro p _ _
    refine ev_succ.1 ?_
    simp only [laws_eqPlaceS.l0, c_end, Int.lt_irrefl, if_false, ev_some]
  | cons x t ih =>
    intro p hb hx
    refine ev_succ.1 ?_
    simp only [laws_eqPlaceS.l0, c_lt, c_nn, rdPlace_at, ev_bind (laws_eqPlace_ev x.f0 x.f1 x.f2 (hx x (by simp))), c_next _ _ _ hb, if_true]
    rw [c_app p x t]
    exact ih (p ++ [x]) (by rwa [← c_app]) (fun y hy => hx y (by simp [hy]))
theorem laws_eqPlaceS_ev (l : List S118) (h : plSize l ≤ 4611686018427387904) : Ev (fun k => laws_eqPlaceS.f k l l) true := by
  have h2 := plSize_mem l _ h
  unfold laws_eqPlaceS.f
  simp only [if_true]
  exact laws_eqPlaceS_loop l [] (by simp; omega) (fun x hx => by have := h2.2 x hx; omega)

theorem laws_eqCampus_ev (n : Int) (l : List S84) (d : List Int) (h : List S118) (hl : l.length ≤ 1000000000) (hd : d.length ≤ 1000000000) (hh : plSize h ≤ 1000000000) : Ev (fun k => laws_eqCampus.f k n l d h n l d h) true := by
  unfold laws_eqCampus.f
  simp only [if_true, ev_bind (laws_eqEdgeS_ev l (by omega)), ev_bind (laws_eqIntS_ev d (by omega)), ev_bind (laws_eqPlaceS_ev h (by omega)), ev_some]

end Go.Proofs.Ytnoklicihomfoaa.Pure
