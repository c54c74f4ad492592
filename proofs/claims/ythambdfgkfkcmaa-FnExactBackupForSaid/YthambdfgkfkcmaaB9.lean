/- What functions of the program answer, as plain functions: used by the laws of this claim. -/
import Derived.Test.YthambdfgkfkcmaaB0
import Derived.Test.YthambdfgkfkcmaaF9
import Derived.Test.YthambdfgkfkcmaaB6
import Derived.Test.YthambdfgkfkcmaaB7
import Derived.Test.YthambdfgkfkcmaaB8
import Derived.Test.YthambdfgkfkcmaaQFlow
import Derived.Test.YthambdfgkfkcmaaQWays
namespace Go.Proofs.Ythambdfgkfkcmaa.Pure
open Go.RowKit Go.Proofs.Ythambdfgkfkcmaa.P Go.Proofs.YthambdfgkfkcmaaW.PrintWords Go.Proofs.Ythambdfgkfkcmaa.Q
set_option linter.unusedVariables false
set_option linter.unusedSimpArgs false

theorem spec_BackupFor_ev (n : Int) (l : List S47) (a b : Int) (hl : l.length ≤ 1048576) : Ev (fun k => spec_BackupFor.f k n l a b) (backV n (l.map trip) (ends l) a b) := by
  unfold spec_BackupFor.f backV backOf
  simp only [ev_bind (spec_l15Two_ev n l a b (by omega)), ev_ite]
  cases g : goodE n (l.map trip) && (inB 0 (wrap64 (n - 1)) a && inB 0 (wrap64 (n - 1)) b) && (a != b)
  · simp only [Bool.false_eq_true, if_false, ev_some, waysV, g, Bool.false_and]
  · obtain ⟨m, rfl, m1, m2, m3, m4, a0, a1, b0, b1, hba⟩ := goodE_all g
    rw [List.length_map] at m4
    simp only [if_true, ev_bind (spec_l15Ways_ev m l a b (by omega) (by omega) m2 m3 a0 a1 b0 b1 hba), waysV, g, Int.toNat_natCast, Bool.true_and]
    generalize waysF _ _ _ _ _ _ _ = w
    by_cases h : (w.length : Int) < 2
    · simp only [h, if_true, show decide (2 ≤ w.length) = false from decide_eq_false (by omega), ev_some, Bool.false_eq_true, if_false]
    · simp only [h, if_false, eq_true (show 0 < (w.length : Int) by omega), eq_true (show 1 < (w.length : Int) by omega), if_true, show decide (2 ≤ w.length) = true from decide_eq_true (by omega), ev_some]; rfl

theorem impl_BackupFor_ev (n : Int) (l : List S47) (a b : Int) (hl : l.length ≤ 1048576) : Ev (fun k => impl_BackupFor.f k n l a b) (backV n (l.map trip) (ends l) a b) := by
  unfold impl_BackupFor.f backV backOf
  simp only [ev_bind (impl_WaysApart_ev n l a b hl)]
  generalize waysV n (l.map trip) (ends l) a b = v
  obtain ⟨w, t⟩ := v
  cases t
  · simp only [Bool.false_eq_true, if_false, Bool.false_and, ev_some]
  · simp only [if_true, Bool.true_and]
    by_cases h : (w.length : Int) < 2
    · simp only [h, if_true, show decide (2 ≤ w.length) = false from decide_eq_false (by omega), ev_some, Bool.false_eq_true, if_false]
    · simp only [h, if_false, eq_true (show 0 < (w.length : Int) by omega), eq_true (show 1 < (w.length : Int) by omega), if_true, show decide (2 ≤ w.length) = true from decide_eq_true (by omega), ev_some]; rfl

end Go.Proofs.Ythambdfgkfkcmaa.Pure
