/- What functions of the program answer, as plain functions: used by the laws of this claim. -/
import Derived.Test.YthambdfgkfkcmaaB0
import Derived.Test.YthambdfgkfkcmaaF8
import Derived.Test.YthambdfgkfkcmaaB4
import Derived.Test.YthambdfgkfkcmaaB5
import Derived.Test.YthambdfgkfkcmaaQFlow
namespace Go.Proofs.Ythambdfgkfkcmaa.Pure
open Go.RowKit Go.Proofs.Ythambdfgkfkcmaa.P Go.Proofs.YthambdfgkfkcmaaW.PrintWords Go.Proofs.Ythambdfgkfkcmaa.Q
set_option linter.unusedVariables false
set_option linter.unusedSimpArgs false

theorem impl_CutBetween_loop (n : Nat) (by_ : List Int) (hb : by_.length = n) (t : List S47) : ∀ (p : List S47) (o : List Int), (∀ x ∈ t, (0 ≤ x.f0 ∧ x.f0 < (n : Int)) ∧ 0 ≤ x.f1 ∧ x.f1 < (n : Int)) → (p ++ t).length ≤ 1000000 → o.length ≤ p.length → Ev (fun k => impl_CutBetween.l0 k by_ o (p ++ t) ((p ++ t).length : Int) (p.length : Int)) (o ++ cutOf by_ p.length (ends t), true) := by
  induction t with
  | nil =>
    intro p o _ _ _
    refine ev_succ.1 ?_
    simp only [impl_CutBetween.l0, c_end, Int.lt_irrefl, if_false, ev_some]
    simp [ends, cutOf]
  | cons x t ih =>
    intro p o hx hp ho
    obtain ⟨⟨q0, q1⟩, q2, q3⟩ := hx x (by simp)
    have hpl : p.length ≤ 1000000 := by simp at hp; omega
    have hn := ih (p ++ [x])
    rw [← c_app] at hn
    simp only [List.length_append, List.length_cons, List.length_nil, Nat.zero_add] at hn
    have hw : wrap64 ((p.length : Int) + 1) = ((p.length + 1 : Nat) : Int) := by rw [c_next p x t (by omega)]; simp
    refine ev_succ.1 ?_
    simp only [impl_CutBetween.l0, c_lt, c_nn, rdE_at, if_true, show (0 ≤ x.f0) = True from eq_true q0, show (x.f0 < (by_.length : Int)) = True from eq_true (by omega), show (0 ≤ x.f1) = True from eq_true q2, show (x.f1 < (by_.length : Int)) = True from eq_true (by omega), show (o.length < 17592186044416) = True from eq_true (by omega), hw, ev_ite, ends, List.map_cons, cutOf]
    by_cases h : decide (rd by_ x.f0 < 0) ≠ decide (rd by_ x.f1 < 0)
    · rw [if_pos h, if_pos (by simpa using h)]
      have := hn (o ++ [(p.length : Int)]) (fun y hy => hx y (by simp [hy])) (by simpa using hp) (by simp; omega)
      simpa [ends] using this
    · rw [if_neg h, if_neg (by simpa using h)]
      have := hn o (fun y hy => hx y (by simp [hy])) (by simpa using hp) (by omega)
      simpa [ends] using this
theorem impl_CutBetween_ev (n : Int) (l : List S47) (a b : Int) (hl : l.length ≤ 1048576) : Ev (fun k => impl_CutBetween.f k n l a b) (cutV n (l.map trip) (ends l) a b) := by
  unfold impl_CutBetween.f
  have e : (goodE n (l.map trip) && allB 0 (wrap64 (n - 1)) [a, b]) = (goodE n (l.map trip) && (inB 0 (wrap64 (n - 1)) a && inB 0 (wrap64 (n - 1)) b)) := by
    simp only [allB_cons, allB_nil, Bool.and_true]
  simp only [ev_bind (impl_goodAt_ev n l [a, b] (by omega) (by simp)), e]
  have no : (goodE n (l.map trip) && (inB 0 (wrap64 (n - 1)) a && inB 0 (wrap64 (n - 1)) b) && (a != b)) = false → Ev (fun k => impl_CutBetween.j0 k n l a b true) (cutV n (l.map trip) (ends l) a b) := by
    intro h
    refine ev_succ.1 ?_
    simp only [impl_CutBetween.j0, if_true, ev_some, cutV, h, Bool.false_eq_true, if_false]
  cases g : goodE n (l.map trip) && (inB 0 (wrap64 (n - 1)) a && inB 0 (wrap64 (n - 1)) b)
  · simp only [Bool.false_eq_true, if_false]
    exact no (by rw [g]; rfl)
  · simp only [if_true]
    by_cases hab : a = b
    · rw [show (a == b) = true from by simpa using hab]
      exact no (by rw [g]; simp [hab])
    · rw [show (a == b) = false from by simpa using hab]
      have hg : (goodE n (l.map trip) && (inB 0 (wrap64 (n - 1)) a && inB 0 (wrap64 (n - 1)) b) && (a != b)) = true := by rw [g]; simpa using hab
      obtain ⟨m, rfl, m1, m2, m3, m4, a0, a1, b0, b1, hba⟩ := goodE_all hg
      have hin : ∀ x ∈ l, (0 ≤ x.f0 ∧ x.f0 < (m : Int)) ∧ 0 ≤ x.f1 ∧ x.f1 < (m : Int) := by
        intro x hx
        have := m2 (trip x) (List.mem_map_of_mem hx)
        simp only [trip] at this
        omega
      rw [List.length_map] at m4
      have hf := impl_flowOf_ev m l a b (by omega) (by omega) a0 a1 b0 b1 hba
      have hu : Unit1 (ends l) (flowV (ends l) m a b) := fill_unit a0 a1 b0 b1 hba _ _ (unit_zero _)
      have hs := impl_flow_search_ev m l (flowV (ends l) m a b) (by omega) (by omega) hu.1 a a0 a1
      obtain ⟨rk, hrk⟩ := searchV_inv (ends l) (flowV (ends l) m a b) a0 a1
      have hc := impl_CutBetween_loop m (searchV (ends l) m (flowV (ends l) m a b) a) hrk.len l [] [] hin (by simp; omega) (by simp)
      simp only [List.nil_append] at hc
      refine ev_succ.1 ?_
      simp only [impl_CutBetween.j0, Bool.false_eq_true, if_false, ev_bind hf, ev_bind hs, cutV, hg, if_true, Int.toNat_natCast]
      exact hc

end Go.Proofs.Ythambdfgkfkcmaa.Pure
