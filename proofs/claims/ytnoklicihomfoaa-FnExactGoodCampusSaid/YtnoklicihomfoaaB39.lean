/- What functions of the program answer, as plain functions: used by the laws of this claim. -/
import Derived.Test.YtnoklicihomfoaaB0
import Derived.Test.YtnoklicihomfoaaF39
import Derived.Test.YtnoklicihomfoaaB1
import Derived.Test.YtnoklicihomfoaaB4
import Derived.Test.YtnoklicihomfoaaB5
import Derived.Test.YtnoklicihomfoaaB38
namespace Go.Proofs.Ytnoklicihomfoaa.Pure
open Go.RowKit Go.Proofs.Ytnoklicihomfoaa.P Go.Proofs.YtnoklicihomfoaaW.PrintWords Go.Proofs.Ytnoklicihomfoaa.Q
set_option linter.unusedVariables false
set_option linter.unusedSimpArgs false

theorem laws_szCampus_ev (n : Int) (l : List S86) (d : List Int) (h : List S141) (hl : l.length ≤ maxLen) (hd : d.length ≤ maxLen) (hh : h.length ≤ maxLen ∧ ∀ x ∈ h, x.f2.length ≤ maxLen) : ∃ r, Ev (fun k => laws_szCampus.f k n l d h 1048576) r ∧ (r < 0 ∨ (l.length ≤ 1048576 ∧ d.length ≤ 1048576 ∧ lplSize h ≤ 1048576 ∧ ¬ r < 0)) := by
  unfold laws_szCampus.f
  simp only [laws_szEdgeS_eq l hl, Option.bind_some, ev_ite, ev_some]
  by_cases h1 : (l.length : Int) > 1048576
  · exact ⟨-1, by simp [h1], .inl (by decide)⟩
  · simp only [h1, if_false, show (1048576 - (l.length : Int) < 0) = False from eq_false (by omega), laws_szIntS_eq d (1048576 - (l.length : Int)) hd (by omega) (by omega), Option.bind_some, ev_ite, ev_some]
    by_cases h2 : (d.length : Int) > 1048576 - (l.length : Int)
    · exact ⟨-1, by simp [h2], .inl (by decide)⟩
    · have hp := laws_szPlaceS_ev h (1048576 - (l.length : Int) - (d.length : Int)) hh (by omega) (by omega)
      simp only [h2, if_false, show (1048576 - (l.length : Int) - (d.length : Int) < 0) = False from eq_false (by omega), ev_bind hp, ev_ite, ev_some]
      by_cases h3 : (lplSize h : Int) > 1048576 - (l.length : Int) - (d.length : Int)
      · exact ⟨-1, by simp [h3], .inl (by decide)⟩
      · exact ⟨_, by rw [if_neg h3, if_neg (by omega)], .inr ⟨by omega, by omega, by omega, by omega⟩⟩

theorem spec_l17Place_ev (n : Int) (l : List S84) (d : List Int) (h : List S118) (x y : Int) (g : List Int) (hg : g.length ≤ 9223372036854775806) : Ev (fun k => spec_l17Place.f k n l d h x y g) (inB 1 99 x && (inB 0 (wrap64 (n - 1)) y && (allB 1 20 g && chainB none g))) := by
  unfold spec_l17Place.f
  simp only [spec_l1In_eq, Option.bind_some, ev_bind (spec_l1Rising_ev 1 20 g hg), ev_ite, ev_some]
  cases inB 1 99 x <;> cases inB 0 (wrap64 (n - 1)) y <;> simp

end Go.Proofs.Ytnoklicihomfoaa.Pure
