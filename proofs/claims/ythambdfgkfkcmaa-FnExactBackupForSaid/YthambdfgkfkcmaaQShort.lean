import Derived.Test.YthambdfgkfkcmaaQGraph
namespace Go.Proofs.Ythambdfgkfkcmaa.Q
open Go.RowKit Go.Proofs.YthambdfgkfkcmaaW.PrintWords
set_option linter.unusedVariables false
set_option linter.unusedSimpArgs false

/-! Least costs from all spots to one. -/
/-- The edges lie within n spots. -/
def In3 (n : Nat) (l : List (Int × Int × Int)) : Prop := ∀ e ∈ l, 0 ≤ e.1 ∧ e.1 < e.2.1 ∧ e.2.1 < (n : Int) ∧ 1 ≤ e.2.2 ∧ e.2.2 ≤ 100
def Adj (l : List (Int × Int × Int)) (v u c : Int) : Prop := (v, u, c) ∈ l ∨ (u, v, c) ∈ l
theorem adj_in {n : Nat} {l : List (Int × Int × Int)} (h : In3 n l) {v u c : Int} (ha : Adj l v u c) : (0 ≤ v ∧ v < (n : Int)) ∧ (0 ≤ u ∧ u < (n : Int)) ∧ 1 ≤ c ∧ c ≤ 100 ∧ v ≠ u := by
  rcases ha with ha | ha
  · have := h _ ha; simp only at this; omega
  · have := h _ ha; simp only at this; omega
section
variable {n : Nat} {l : List (Int × Int × Int)} {b : Int}
theorem rd_replicate (n : Nat) (x v : Int) (v0 : 0 ≤ v) (v1 : v < (n : Int)) : rd (List.replicate n x) v = x := by
  unfold rd
  rw [List.getD_eq_getElem?_getD, List.getElem?_replicate, if_pos (by omega)]
  rfl
end
end Go.Proofs.Ythambdfgkfkcmaa.Q
