/- What functions of the program answer, as plain functions: used by the laws of this claim. -/
import Derived.Test.YtolncjkfcmbieaaB0
import Derived.Test.YtolncjkfcmbieaaF31
import Derived.Test.YtolncjkfcmbieaaQTree
namespace Go.Proofs.Ytolncjkfcmbieaa.Pure
open Go.RowKit Go.Proofs.Ytolncjkfcmbieaa.P Go.Proofs.YtolncjkfcmbieaaW.PrintWords Go.Proofs.Ytolncjkfcmbieaa.Q
set_option linter.unusedVariables false
set_option linter.unusedSimpArgs false

-- needs QTree
theorem spec_l1Put_loop (n : Int) (t : List Int) : ∀ p : List Int, (p ++ t).length ≤ 8796093022206 → Ev (fun k => spec_l1Put.l0 k (p ++ t) n (p.length : Int)) (p ++ putV t n) := by
  induction t with
  | nil =>
    intro p hb
    refine ev_succ.1 ?_
    rw [List.append_nil]
    have e1 : ((p.length : Int) ≤ (p.length : Int)) = True := eq_true (Int.le_refl _)
    have e2 : p.take ((p.length : Int)).toNat = p := by simp
    have e3 : p.drop ((p.length : Int)).toNat = [] := by simp
    have e4 : (p.length < 17592186044416) = True := eq_true (by simp at hb; omega)
    have e5 : ((p ++ [n]).length < 17592186044416) = True := eq_true (by simp at hb ⊢; omega)
    simp only [spec_l1Put.l0, c_end, Int.lt_irrefl, if_false, Option.bind_some, c_nn, if_true, e1, e2, e3, e4, e5, List.nil_append, List.length_nil, Nat.zero_add, Nat.add_zero, List.append_nil, ev_some, putV]
  | cons x t ih =>
    intro p hb
    refine ev_succ.1 ?_
    have e1 : ((p.length : Int) ≤ ((p ++ x :: t).length : Int)) = True := eq_true (by simp; omega)
    have e2 : (p ++ x :: t).take ((p.length : Int)).toNat = p := by simp
    have e3 : (p ++ x :: t).drop ((p.length : Int)).toNat = x :: t := by simp
    have e4 : (p.length < 17592186044416) = True := eq_true (by simp at hb; omega)
    have e5 : ((p ++ [n]).length + (x :: t).length < 17592186044416) = True := eq_true (by simp at hb ⊢; omega)
    simp only [spec_l1Put.l0, c_lt, c_nn, c_rd, c_next p x t (by omega), Option.bind_some, if_true, e1, e2, e3, e4, e5, List.nil_append, List.length_nil, Nat.zero_add, ev_ite, ev_some]
    have h1 := ih (p ++ [x]) (by rwa [← c_app])
    rw [← c_app] at h1
    by_cases h : x < n
    · simpa [h, putV] using h1
    · by_cases h2 : x = n <;> simp [h, h2, putV]
theorem spec_l1Put_ev (l : List Int) (n : Int) (h : l.length ≤ 8796093022206) : Ev (fun k => spec_l1Put.f k l n) (putV l n) := spec_l1Put_loop n l [] h

theorem slices_Sort_int_int_eq (l : List Int) (h : l.length ≤ 1000000000) : slices_Sort_int_int.f l = some (l.mergeSort fun x y => decide (x ≤ y)) := by
  unfold slices_Sort_int_int.f
  rw [if_pos (by omega)]
/-- What is sorted and strictly rising stays as it is, for all that has the same numbers. -/
theorem sort_of_perm {o s : List Int} (h : o.Perm s) (hs : s.Pairwise (fun a b => a < b)) : (o.mergeSort fun x y => decide (x ≤ y)) = s := by
  refine List.Perm.eq_of_pairwise (le := fun a b => a ≤ b) (fun a b _ _ h1 h2 => Int.le_antisymm h1 h2) ?_ (hs.imp (fun h => Int.le_of_lt h)) ((List.mergeSort_perm o _).trans h)
  have := List.pairwise_mergeSort (le := fun x y : Int => decide (x ≤ y)) (fun a b c h1 h2 => by simp only [decide_eq_true_eq] at *; omega) (fun a b => by simp only [Bool.or_eq_true, decide_eq_true_eq]; omega) o
  exact this.imp (fun h => by simpa using h)

end Go.Proofs.Ytolncjkfcmbieaa.Pure
