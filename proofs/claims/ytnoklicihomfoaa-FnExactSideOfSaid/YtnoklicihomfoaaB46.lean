/- What functions of the program answer, as plain functions: used by the laws of this claim. -/
import Derived.Test.YtnoklicihomfoaaB0
import Derived.Test.YtnoklicihomfoaaF46
import Derived.Test.YtnoklicihomfoaaB1
import Derived.Test.YtnoklicihomfoaaB4
import Derived.Test.YtnoklicihomfoaaB5
import Derived.Test.YtnoklicihomfoaaB7
import Derived.Test.YtnoklicihomfoaaB10
import Derived.Test.YtnoklicihomfoaaB14
import Derived.Test.YtnoklicihomfoaaB16
namespace Go.Proofs.Ytnoklicihomfoaa.Pure
open Go.RowKit Go.Proofs.Ytnoklicihomfoaa.P Go.Proofs.YtnoklicihomfoaaW.PrintWords Go.Proofs.Ytnoklicihomfoaa.Q
set_option linter.unusedVariables false
set_option linter.unusedSimpArgs false

theorem spec_SideOf_loop (g : List Int) (a : Int) (h0 : 0 ≤ a) (h1 : a < (g.length : Int)) (hb : g.length ≤ 1000000000) (t : List Int) : ∀ (p o : List Int), p ++ t = g → o.length ≤ p.length → Ev (fun k => spec_SideOf.l0 k a g o g (g.length : Int) (p.length : Int)) (o ++ sideFrom g a p.length t, true) := by
  induction t with
  | nil =>
    intro p o e _
    refine ev_succ.1 ?_
    subst e
    simp only [spec_SideOf.l0, c_end, Int.lt_irrefl, if_false, ev_some, sideFrom, List.append_nil]
  | cons x t ih =>
    intro p o e ho
    have hl : (p ++ x :: t).length ≤ 1000000000 := by rw [e]; exact hb
    have hpl : p.length ≤ 1000000000 := by simp at hl; omega
    refine ev_succ.1 ?_
    have e1 : ((p.length : Int) < (g.length : Int)) = True := by rw [← e]; exact c_lt _ _ _
    have e2 : rd g (p.length : Int) = x := by rw [← e]; exact c_rd _ _ _
    simp only [spec_SideOf.l0, e1, e2, c_nn, if_true, show (0 ≤ a) = True from eq_true h0, show (a < (g.length : Int)) = True from eq_true h1, show (o.length < 17592186044416) = True from eq_true (by omega), c_next p x t (by omega), ev_ite, sideFrom]
    have hn0 := ih (p ++ [x]) o (by rw [← e]; simp) (by simp; omega)
    have hn1 := ih (p ++ [x]) (o ++ [(p.length : Int)]) (by rw [← e]; simp) (by simp; omega)
    by_cases h2 : x = rd g a
    · simpa [h2] using hn1
    · simpa [h2] using hn0
theorem spec_SideOf_ev (n : Int) (l : List S84) (cut : List Int) (a : Int) (h : l.length ≤ 1000000000) (hc : cut.length ≤ 1000000000) : Ev (fun k => spec_SideOf.f k n l cut a) (if goodE n (l.map trip) && (allB 0 ((l.length : Int) - 1) cut && chainB none cut) && inB 0 (wrap64 (n - 1)) a then (sideV (groupsV n.toNat (ends (dropFrom cut 0 l))) a, true) else ([], false)) := by
  unfold spec_SideOf.f
  simp only [ev_bind (spec_GoodEdges_ev n l (by omega)), w64 (n := (l.length : Int) - 1) (by omega) (by omega), ev_bind (spec_l1Rising_ev 0 ((l.length : Int) - 1) cut (by omega)), spec_l1In_eq, Option.bind_some, ev_ite]
  have ht : Ev (fun k => spec_SideOf.j0 k n l cut a true) ([], false) := by
    refine ev_succ.1 ?_
    simp only [spec_SideOf.j0, if_true]
    exact Ev.now _
  cases hg : goodE n (l.map trip)
  · simpa using ht
  · obtain ⟨m, rfl, h1, h2, hw, h40⟩ := goodE_within hg
    have hin : inB 0 (wrap64 ((m : Int) - 1)) a = true → Ev (fun k => spec_SideOf.j0 k (m : Int) l cut a false) (sideV (groupsV m (ends (dropFrom cut 0 l))) a, true) := by
      intro hi
      rw [w64 (n := (m : Int) - 1) (by omega) (by omega)] at hi
      have hi := inB_iff.1 hi
      have hdl : (dropFrom cut 0 l).length ≤ 1000000000 := Nat.le_trans (dropFrom_length _ _ _) h
      refine ev_succ.1 ?_
      simp only [spec_SideOf.j0, Bool.false_eq_true, if_false, ev_bind (spec_l15Without_ev l cut h hc), ev_bind (spec_l8Groups_ev m _ (within_drop hw cut) hdl (by omega))]
      have := spec_SideOf_loop (groupsV m (ends (dropFrom cut 0 l))) a hi.1 (by rw [groupsV_length]; omega) (by rw [groupsV_length]; omega) (groupsV m (ends (dropFrom cut 0 l))) [] [] rfl (by simp)
      simpa [sideV] using this
    simp only [Int.toNat_natCast]
    cases hi : inB 0 (wrap64 ((m : Int) - 1)) a
    · cases allB 0 ((l.length : Int) - 1) cut <;> cases chainB none cut <;> simpa using ht
    · cases allB 0 ((l.length : Int) - 1) cut <;> cases chainB none cut <;> first | (simpa using ht) | (simpa using hin hi)

theorem impl_SideOf_loop (g : List Int) (a : Int) (h0 : 0 ≤ a) (h1 : a < (g.length : Int)) (hb : g.length ≤ 1000000000) (t : List Int) : ∀ (p o : List Int), p ++ t = g → o.length ≤ p.length → Ev (fun k => impl_SideOf.l0 k a g o g (g.length : Int) (p.length : Int)) (o ++ sideFrom g a p.length t, true) := by
  induction t with
  | nil =>
    intro p o e _
    refine ev_succ.1 ?_
    subst e
    simp only [impl_SideOf.l0, c_end, Int.lt_irrefl, if_false, ev_some, sideFrom, List.append_nil]
  | cons x t ih =>
    intro p o e ho
    have hl : (p ++ x :: t).length ≤ 1000000000 := by rw [e]; exact hb
    have hpl : p.length ≤ 1000000000 := by simp at hl; omega
    refine ev_succ.1 ?_
    have e1 : ((p.length : Int) < (g.length : Int)) = True := by rw [← e]; exact c_lt _ _ _
    have e2 : rd g (p.length : Int) = x := by rw [← e]; exact c_rd _ _ _
    simp only [impl_SideOf.l0, e1, e2, c_nn, if_true, show (0 ≤ a) = True from eq_true h0, show (a < (g.length : Int)) = True from eq_true h1, show (o.length < 17592186044416) = True from eq_true (by omega), c_next p x t (by omega), ev_ite, sideFrom]
    have hn0 := ih (p ++ [x]) o (by rw [← e]; simp) (by simp; omega)
    have hn1 := ih (p ++ [x]) (o ++ [(p.length : Int)]) (by rw [← e]; simp) (by simp; omega)
    by_cases h2 : x = rd g a
    · simpa [h2] using hn1
    · simpa [h2] using hn0
theorem impl_SideOf_ev (n : Int) (l : List S84) (cut : List Int) (a : Int) (h : l.length ≤ 1000000000) (hc : cut.length ≤ 1000000000) : Ev (fun k => impl_SideOf.f k n l cut a) (if goodE n (l.map trip) && (allB 0 ((l.length : Int) - 1) cut && chainB none cut) && inB 0 (wrap64 (n - 1)) a then (sideV (groupsV n.toNat (ends (dropFrom cut 0 l))) a, true) else ([], false)) := by
  unfold impl_SideOf.f
  simp only [ev_bind (impl_goodCut_ev n l cut h hc), impl_in_eq, Option.bind_some, ev_ite]
  have ht : Ev (fun k => impl_SideOf.j0 k n l cut a true) ([], false) := by
    refine ev_succ.1 ?_
    simp only [impl_SideOf.j0, if_true]
    exact Ev.now _
  cases hg : goodE n (l.map trip)
  · simpa using ht
  · obtain ⟨m, rfl, h1, h2, hw, h40⟩ := goodE_within hg
    have hin : inB 0 (wrap64 ((m : Int) - 1)) a = true → Ev (fun k => impl_SideOf.j0 k (m : Int) l cut a false) (sideV (groupsV m (ends (dropFrom cut 0 l))) a, true) := by
      intro hi
      rw [w64 (n := (m : Int) - 1) (by omega) (by omega)] at hi
      have hi := inB_iff.1 hi
      have hdl : (dropFrom cut 0 l).length ≤ 1000000000 := Nat.le_trans (dropFrom_length _ _ _) h
      refine ev_succ.1 ?_
      simp only [impl_SideOf.j0, Bool.false_eq_true, if_false, ev_bind (impl_without_ev l cut h hc), ev_bind (impl_groupsOf_ev m _ (within_drop hw cut) hdl (by omega))]
      have := impl_SideOf_loop (groupsV m (ends (dropFrom cut 0 l))) a hi.1 (by rw [groupsV_length]; omega) (by rw [groupsV_length]; omega) (groupsV m (ends (dropFrom cut 0 l))) [] [] rfl (by simp)
      simpa [sideV] using this
    simp only [Int.toNat_natCast]
    cases hi : inB 0 (wrap64 ((m : Int) - 1)) a
    · cases allB 0 ((l.length : Int) - 1) cut <;> cases chainB none cut <;> simpa using ht
    · cases allB 0 ((l.length : Int) - 1) cut <;> cases chainB none cut <;> first | (simpa using ht) | (simpa using hin hi)

end Go.Proofs.Ytnoklicihomfoaa.Pure
