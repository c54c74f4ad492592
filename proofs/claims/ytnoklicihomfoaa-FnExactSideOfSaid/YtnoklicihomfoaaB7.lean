/- What functions of the program answer, as plain functions: used by the laws of this claim. -/
import Derived.Test.YtnoklicihomfoaaB0
import Derived.Test.YtnoklicihomfoaaF7
import Derived.Test.YtnoklicihomfoaaB6
namespace Go.Proofs.Ytnoklicihomfoaa.Pure
open Go.RowKit Go.Proofs.Ytnoklicihomfoaa.P Go.Proofs.YtnoklicihomfoaaW.PrintWords Go.Proofs.Ytnoklicihomfoaa.Q
set_option linter.unusedVariables false
set_option linter.unusedSimpArgs false

theorem spec_l15Without_loop (cut : List Int) (hc : cut.length ≤ 1000000000) (t : List S84) : ∀ (p o : List S84), (p ++ t).length ≤ 1000000000 → o.length ≤ p.length → Ev (fun k => spec_l15Without.l0 k cut o (p ++ t) ((p ++ t).length : Int) (p.length : Int)) (o ++ dropFrom cut p.length t) := by
  induction t with
  | nil =>
    intro p o _ _
    refine ev_succ.1 ?_
    simp only [spec_l15Without.l0, c_end, Int.lt_irrefl, if_false, ev_some, dropFrom, List.append_nil]
  | cons x t ih =>
    intro p o hb ho
    have hpl : p.length ≤ 1000000000 := by simp at hb; omega
    refine ev_succ.1 ?_
    simp only [spec_l15Without.l0, c_lt, c_nn, rdE_at, etaE, c_next p x t (by omega), if_true, ev_ite, ev_bind (spec_l1Has_ev cut (p.length : Int) (by omega)), show (o.length < 5864062014805) = True from eq_true (by omega), dropFrom]
    have h0 := ih (p ++ [x]) o (by rwa [← c_app]) (by simp; omega)
    have h1 := ih (p ++ [x]) (o ++ [x]) (by rwa [← c_app]) (by simp; omega)
    rw [← c_app] at h0 h1
    cases hasB (p.length : Int) cut
    · simpa using h1
    · simpa using h0
theorem spec_l15Without_ev (l : List S84) (cut : List Int) (hb : l.length ≤ 1000000000) (hc : cut.length ≤ 1000000000) : Ev (fun k => spec_l15Without.f k l cut) (dropFrom cut 0 l) := by
  simpa [spec_l15Without.f] using spec_l15Without_loop cut hc l [] [] hb (by simp)

end Go.Proofs.Ytnoklicihomfoaa.Pure
