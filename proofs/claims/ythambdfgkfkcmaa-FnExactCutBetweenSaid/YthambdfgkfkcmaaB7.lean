/- What functions of the program answer, as plain functions: used by the laws of this claim. -/
import Derived.Test.YthambdfgkfkcmaaB0
import Derived.Test.YthambdfgkfkcmaaF7
import Derived.Test.YthambdfgkfkcmaaB1
import Derived.Test.YthambdfgkfkcmaaB2
import Derived.Test.YthambdfgkfkcmaaB3
import Derived.Test.YthambdfgkfkcmaaQFlow
import Derived.Test.YthambdfgkfkcmaaQGraph
namespace Go.Proofs.Ythambdfgkfkcmaa.Pure
open Go.RowKit Go.Proofs.Ythambdfgkfkcmaa.P Go.Proofs.YthambdfgkfkcmaaW.PrintWords Go.Proofs.Ythambdfgkfkcmaa.Q
set_option linter.unusedVariables false
set_option linter.unusedSimpArgs false

theorem spec_CutBetween_loop (n : Nat) (by_ : List Int) (hb : by_.length = n) (a : Int) (a0 : 0 ≤ a) (a1 : a < (n : Int)) (ha : rd by_ a = a) (hg : ∀ v : Int, 0 ≤ v → v < (n : Int) → rd by_ v = -1 ∨ (0 ≤ rd by_ v ∧ rd by_ v < (n : Int))) (t : List S47) : ∀ (p : List S47) (o : List Int), (∀ x ∈ t, (0 ≤ x.f0 ∧ x.f0 < (n : Int)) ∧ 0 ≤ x.f1 ∧ x.f1 < (n : Int)) → (p ++ t).length ≤ 1000000 → o.length ≤ p.length → Ev (fun k => spec_CutBetween.l0 k (by_.set a.toNat (-2)) o (p ++ t) ((p ++ t).length : Int) (p.length : Int)) (o ++ cutOf by_ p.length (ends t), true) := by
  have hval : ∀ v : Int, 0 ≤ v → v < (n : Int) → (rd (by_.set a.toNat (-2)) v == -1) = decide (rd by_ v < 0) := by
    intro v v0 v1
    rw [rd_set a0 (by omega) v0]
    by_cases e : v = a
    · rw [if_pos e, e, ha]
      rw [show decide (a < 0) = false from by simpa using a0]; rfl
    · rw [if_neg e]
      rcases hg v v0 v1 with h | h
      · rw [h]; rfl
      · rw [show decide (rd by_ v < 0) = false from by simpa using h.1]
        simp; omega
  induction t with
  | nil =>
    intro p o _ _ _
    refine ev_succ.1 ?_
    simp only [spec_CutBetween.l0, c_end, Int.lt_irrefl, if_false, ev_some]
    simp [ends, cutOf]
  | cons x t ih =>
    intro p o hx hp ho
    obtain ⟨⟨q0, q1⟩, q2, q3⟩ := hx x (by simp)
    have hpl : p.length ≤ 1000000 := by simp at hp; omega
    have hn := ih (p ++ [x])
    rw [← c_app] at hn
    simp only [List.length_append, List.length_cons, List.length_nil, Nat.zero_add] at hn
    have hw : wrap64 ((p.length : Int) + 1) = ((p.length + 1 : Nat) : Int) := by rw [c_next p x t (by omega)]; simp
    refine ev_succ.1 ?_
    simp only [spec_CutBetween.l0, c_lt, c_nn, rdE_at, if_true, List.length_set, show (0 ≤ x.f0) = True from eq_true q0, show (x.f0 < (by_.length : Int)) = True from eq_true (by omega), show (0 ≤ x.f1) = True from eq_true q2, show (x.f1 < (by_.length : Int)) = True from eq_true (by omega), show (o.length < 17592186044416) = True from eq_true (by omega), hw, hval x.f0 q0 q1, hval x.f1 q2 q3, ev_ite, ends, List.map_cons, cutOf]
    by_cases h : decide (rd by_ x.f0 < 0) ≠ decide (rd by_ x.f1 < 0)
    · rw [if_pos h, if_pos (by simpa using h)]
      have := hn (o ++ [(p.length : Int)]) (fun y hy => hx y (by simp [hy])) (by simpa using hp) (by simp; omega)
      simpa [ends] using this
    · rw [if_neg h, if_neg (by simpa using h)]
      have := hn o (fun y hy => hx y (by simp [hy])) (by simpa using hp) (by omega)
      simpa [ends] using this
theorem spec_CutBetween_ev (n : Int) (l : List S47) (a b : Int) (hl : l.length ≤ 1048576) : Ev (fun k => spec_CutBetween.f k n l a b) (cutV n (l.map trip) (ends l) a b) := by
  unfold spec_CutBetween.f
  simp only [ev_bind (spec_l15Two_ev n l a b (by omega)), ev_ite]
  cases g : goodE n (l.map trip) && (inB 0 (wrap64 (n - 1)) a && inB 0 (wrap64 (n - 1)) b) && (a != b)
  · simp only [Bool.false_eq_true, if_false, ev_some, cutV, g]
  · obtain ⟨m, rfl, m1, m2, m3, m4, a0, a1, b0, b1, hba⟩ := goodE_all g
    have hin : ∀ x ∈ l, (0 ≤ x.f0 ∧ x.f0 < (m : Int)) ∧ 0 ≤ x.f1 ∧ x.f1 < (m : Int) := by
      intro x hx
      have := m2 (trip x) (List.mem_map_of_mem hx)
      simp only [trip] at this
      omega
    rw [List.length_map] at m4
    have hf := spec_l15Flow_ev m l a b (by omega) (by omega) m2 m3 a0 a1 b0 b1 hba
    have hu : Unit1 (ends l) (flowV (ends l) m a b) := fill_unit a0 a1 b0 b1 hba _ _ (unit_zero _)
    have hs := spec_l15Reach_ev m l (flowV (ends l) m a b) (by omega) (by omega) m2 m3 hu a a0 a1
    obtain ⟨rk, hrk⟩ := searchV_inv (ends l) (flowV (ends l) m a b) a0 a1
    have hc := spec_CutBetween_loop m (searchV (ends l) m (flowV (ends l) m a b) a) hrk.len a a0 a1 hrk.root hrk.rng l [] [] hin (by simp; omega) (by simp)
    simp only [List.nil_append] at hc
    simp only [if_true, ev_bind hf, ev_bind hs, cutV, g, Int.toNat_natCast]
    exact hc

end Go.Proofs.Ythambdfgkfkcmaa.Pure
