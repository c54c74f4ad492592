import Derived.Test.YthambdfgkfkcmaaQBase
namespace Go.Proofs.Ythambdfgkfkcmaa.Q
open Go.RowKit Go.Proofs.YthambdfgkfkcmaaW.PrintWords
set_option linter.unusedVariables false
set_option linter.unusedSimpArgs false

/-! Groups of spots: the least spot that edges lead to. -/
/-- Within the spots. -/
def Within (n : Nat) (ab : List (Int × Int)) : Prop := ∀ e ∈ ab, 0 ≤ e.1 ∧ e.1 < n ∧ 0 ≤ e.2 ∧ e.2 < n
theorem rd_set {g : List Int} {i : Int} {x j : Int} (h0 : 0 ≤ i) (h1 : i < (g.length : Int)) (h2 : 0 ≤ j) : rd (g.set i.toNat x) j = if j = i then x else rd g j := by
  unfold rd
  rw [List.getD_eq_getElem?_getD, List.getElem?_set]
  by_cases h : j = i
  · subst h
    simp [show j.toNat < g.length by omega]
  · rw [if_neg (show ¬ i.toNat = j.toNat by omega), if_neg h, List.getD_eq_getElem?_getD]
/-! Passes till nothing changes. -/
theorem rd_get {g : List Int} {i : Int} (h0 : 0 ≤ i) (h1 : i < (g.length : Int)) : rd g i = g[i.toNat]'(by omega) := by
  simp [rd, List.getD_eq_getElem?_getD, show i.toNat < g.length by omega]
/-! So many passes as there are spots are enough: each makes one spot more right. -/
def right (n : Nat) (m g : List Int) : Nat := (List.range n).countP fun v : Nat => decide (rd g (v : Int) = rd m (v : Int))
theorem countP_lt {l : List Nat} {p q : Nat → Bool} (h : ∀ x ∈ l, p x = true → q x = true) {y : Nat} (hy : y ∈ l) (hp : p y = false) (hq : q y = true) : l.countP p < l.countP q := by
  induction l with
  | nil => cases hy
  | cons x l ih =>
    have hle : l.countP p ≤ l.countP q := List.countP_mono_left fun a ha => h a (by simp [ha])
    rw [List.countP_cons, List.countP_cons]
    rcases List.mem_cons.1 hy with rfl | hy
    · simp [hp, hq]; omega
    · have := ih (fun a ha => h a (by simp [ha])) hy
      have hx := h x (by simp)
      cases h1 : p x
      · cases h2 : q x <;> simp <;> omega
      · rw [hx h1]; simp; omega
/-- The edges without those of a spot. -/
def endsNo (s : Int) (ab : List (Int × Int)) : List (Int × Int) := ab.filter fun e => decide (e.1 ≠ s) && decide (e.2 ≠ s)
/-- The cost of the edge between two spots, 0 for none. -/
def costV : List (Int × Int × Int) → Int → Int → Int
  | [], _, _ => 0
  | e :: t, a, b => if e.1 = min a b ∧ e.2.1 = max a b then e.2.2 else costV t a b
/-- Good edges stand in a strict order: no two have the same ends. -/
theorem edgesB_sorted {m : Int} : ∀ (l : List (Int × Int × Int)) (o : Option (Int × Int × Int)), edgesB m o l = true → (∀ y, o = some y → ∀ x ∈ l, y.1 < x.1 ∨ (y.1 = x.1 ∧ y.2.1 < x.2.1)) ∧ l.Pairwise (fun y x => y.1 < x.1 ∨ (y.1 = x.1 ∧ y.2.1 < x.2.1))
  | [], _, _ => by simp
  | x :: t, o, h => by
    simp only [edgesB_cons, Bool.and_eq_true] at h
    obtain ⟨h1, h2⟩ := edgesB_sorted t _ h.2
    have h3 := h1 x rfl
    refine ⟨fun y hy z hz => ?_, List.pairwise_cons.2 ⟨h3, h2⟩⟩
    subst hy
    have hb := h.1.2
    simp only [behindB, decide_eq_true_eq] at hb
    rcases List.mem_cons.1 hz with rfl | hz
    · exact hb
    · have := h3 z hz; omega
theorem goodE_nodup {n : Int} {l : List (Int × Int × Int)} (h : goodE n l = true) : (l.map fun x => (x.1, x.2.1)).Nodup := by
  simp only [goodE, Bool.and_eq_true] at h
  have := (edgesB_sorted l none h.1).2
  rw [List.Nodup, List.pairwise_map]
  refine this.imp ?_
  intro a b hab he
  injection he with h1 h2
  omega
/-- The first number of an edge, in either direction, in a list whose first number is i; -1 for none. -/
def numFrom (x y : Int) : Nat → List (Int × Int) → Int
  | _, [] => -1
  | i, e :: t => if (e.1 = x ∧ e.2 = y) ∨ (e.1 = y ∧ e.2 = x) then (i : Int) else numFrom x y (i + 1) t
end Go.Proofs.Ythambdfgkfkcmaa.Q
