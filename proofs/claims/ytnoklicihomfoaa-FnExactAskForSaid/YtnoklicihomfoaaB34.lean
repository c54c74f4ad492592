/- What functions of the program answer, as plain functions: used by the laws of this claim. -/
import Derived.Test.YtnoklicihomfoaaB0
import Derived.Test.YtnoklicihomfoaaF34
import Derived.Test.YtnoklicihomfoaaB4
import Derived.Test.YtnoklicihomfoaaB33
namespace Go.Proofs.Ytnoklicihomfoaa.Pure
open Go.RowKit Go.Proofs.Ytnoklicihomfoaa.P Go.Proofs.YtnoklicihomfoaaW.PrintWords Go.Proofs.Ytnoklicihomfoaa.Q
set_option linter.unusedVariables false
set_option linter.unusedSimpArgs false

theorem impl_ask_two (lo hi : Int) (asked : List Int) (s : List S104) (hs : s.length ≤ 1000000000) (t : List S104) : ∀ (p o : List S104), (p ++ t).length ≤ 1000000000 → o.length ≤ p.length → Ev (fun k => impl_ask.l1 k asked o (p ++ t) ((p ++ t).length : Int) (p.length : Int) lo hi s) (asked, o ++ t.filter (fun x => inB lo hi x.f0 && decide (x.f1 > seqV (s.map hpr) x.f0))) := by
  induction t with
  | nil =>
    intro p o _ _
    refine ev_succ.1 ?_
    simp only [impl_ask.l1, c_end, Int.lt_irrefl, if_false, ev_some]
    simp
  | cons x t ih =>
    intro p o hb ho
    have hpl : p.length ≤ 1000000000 := by simp at hb; omega
    refine ev_succ.1 ?_
    simp only [impl_ask.l1, c_lt, c_nn, rdHave_at, etaHave, c_next p x t (by omega), if_true, impl_in_eq, Option.bind_some, ev_bind (impl_seqFor_ev s x.f0 (by omega)), ev_ite, show (o.length < 8796093022208) = True from eq_true (by omega)]
    have h0 := ih (p ++ [x]) o (by rwa [← c_app]) (by simp; omega)
    have h1 := ih (p ++ [x]) (o ++ [x]) (by rwa [← c_app]) (by simp; omega)
    rw [← c_app] at h0 h1
    cases h2 : inB lo hi x.f0
    · simpa [h2] using h0
    · by_cases h3 : x.f1 > seqV (s.map hpr) x.f0
      · simp only [h3, if_true]
        simpa [h2, h3] using h1
      · simp only [h3, if_true, if_false]
        simpa [h2, h3] using h0
theorem impl_ask_one (lo hi : Int) (l : List S104) (hl : l.length ≤ 1000000000) (s : List S104) (hs : s.length ≤ 1000000000) (t : List S104) : ∀ (p : List S104) (o : List Int), p ++ t = s → o.length ≤ p.length → Ev (fun k => impl_ask.l0 k l o s (s.length : Int) (p.length : Int) lo hi s) (o ++ (t.filter (fun x => decide (x.f1 > seqV (l.map hpr) x.f0))).map (fun x => x.f0), l.filter (fun x => inB lo hi x.f0 && decide (x.f1 > seqV (s.map hpr) x.f0))) := by
  induction t with
  | nil =>
    intro p o e _
    refine ev_succ.1 ?_
    have e1 : p = s := by rw [← e]; simp
    subst e1
    simp only [impl_ask.l0, Int.lt_irrefl, if_false]
    simpa using impl_ask_two lo hi o p hs l [] [] hl (by simp)
  | cons x t ih =>
    intro p o e ho
    have hb : (p ++ x :: t).length ≤ 1000000000 := by rw [e]; exact hs
    have hpl : p.length ≤ 1000000000 := by simp at hb; omega
    refine ev_succ.1 ?_
    have e1 : ((p.length : Int) < (s.length : Int)) = True := by rw [← e]; exact c_lt _ _ _
    have e2 : rd_T104 s (p.length : Int) = x := by rw [← e]; exact rdHave_at _ _ _
    simp only [impl_ask.l0, e1, e2, c_nn, c_next p x t (by omega), if_true, ev_bind (impl_seqFor_ev l x.f0 (by omega)), ev_ite, show (o.length < 17592186044416) = True from eq_true (by omega)]
    have h0 := ih (p ++ [x]) o (by rw [← e]; simp) (by simp; omega)
    have h1 := ih (p ++ [x]) (o ++ [x.f0]) (by rw [← e]; simp) (by simp; omega)
    by_cases h3 : x.f1 > seqV (l.map hpr) x.f0
    · simp only [h3, if_true, show x.f1 > seqV (l.map hpr) x.f0 from h3]
      simpa [h3] using h1
    · simp only [h3, if_false, show ¬ x.f1 > seqV (l.map hpr) x.f0 from h3]
      simpa [h3] using h0
theorem impl_ask_ev (l : List S104) (lo hi : Int) (s : List S104) (hl : l.length ≤ 1000000000) (hs : s.length ≤ 1000000000) : Ev (fun k => impl_ask.f k l lo hi s) ((s.filter (fun x => decide (x.f1 > seqV (l.map hpr) x.f0))).map (fun x => x.f0), l.filter (fun x => inB lo hi x.f0 && decide (x.f1 > seqV (s.map hpr) x.f0))) := by
  simpa [impl_ask.f] using impl_ask_one lo hi l hl s hs s [] [] rfl (by simp)

end Go.Proofs.Ytnoklicihomfoaa.Pure
