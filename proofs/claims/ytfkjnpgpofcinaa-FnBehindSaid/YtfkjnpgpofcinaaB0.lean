/- Plain facts on the kinds of the program, used by the texts of this claim. -/
import Derived.Test.YtfkjnpgpofcinaaF0
import Derived.Test.YtfkjnpgpofcinaaQBase
import Derived.Test.YtfkjnpgpofcinaaQGraph
namespace Go.Proofs.Ytfkjnpgpofcinaa.Pure
open Go.RowKit Go.Proofs.Ytfkjnpgpofcinaa.P Go.Proofs.YtfkjnpgpofcinaaW.PrintWords Go.Proofs.Ytfkjnpgpofcinaa.Q
set_option linter.unusedVariables false
set_option linter.unusedSimpArgs false

-- needs QGraph
theorem rdE_at (p : List S148) (x : S148) (t : List S148) : rd_T148 (p ++ x :: t) (p.length : Int) = x := by simp [rd_T148]
/-- The ends and the cost. -/
def trip (e : S148) : Int × Int × Int := (e.f0, e.f1, e.f2)
theorem etaE (x : S148) : (⟨x.f0, x.f1, x.f2⟩ : S148) = x := rfl
/-- The ends alone. -/
def ends (l : List S148) : List (Int × Int) := l.map fun e => (e.f0, e.f1)
theorem ends_erase : ∀ (l : List S148) (i : Nat), ends (l.eraseIdx i) = (ends l).eraseIdx i
  | [], _ => rfl
  | x :: t, 0 => rfl
  | x :: t, i + 1 => by
    have := ends_erase t i
    simp only [ends, List.eraseIdx_cons_succ, List.map_cons] at this ⊢
    rw [this]
theorem ends_no (l : List S148) (s : Int) : ends (l.filter (fun x => decide (x.f0 ≠ s) && decide (x.f1 ≠ s))) = endsNo s (ends l) := by
  unfold ends endsNo
  rw [List.filter_map]
  rfl
theorem goodE_within {n : Int} {l : List S148} (h : goodE n (l.map trip) = true) : ∃ m : Nat, n = (m : Int) ∧ 1 ≤ m ∧ m ≤ 12 ∧ Within m (ends l) ∧ l.length ≤ 40 := by
  obtain ⟨m, rfl, h1, h2, h3, h4⟩ := goodE_open h
  refine ⟨m, rfl, h1, h2, fun e he => ?_, by simpa using h4⟩
  obtain ⟨x, hx, rfl⟩ := List.mem_map.1 he
  have := h3 (trip x) (List.mem_map_of_mem hx)
  simp only [trip] at this ⊢
  omega
theorem within_drop {n : Nat} {l : List S148} (h : Within n (ends l)) (cut : List Int) : Within n (ends (dropFrom cut 0 l)) := by
  intro e he
  obtain ⟨x, hx, rfl⟩ := List.mem_map.1 he
  exact h _ (List.mem_map_of_mem (dropFrom_sub cut l 0 x hx))
def marksE : Nat → Int → List S148
  | 0, _ => []
  | n + 1, a => ⟨a, a + 1, a + 2⟩ :: marksE n (a + 3)
theorem marksE_length (n : Nat) : ∀ a, (marksE n a).length = n := by
  induction n with
  | zero => intro a; rfl
  | succ n ih => intro a; simp [marksE, ih]

theorem rdHop_at (p : List S76) (x : S76) (t : List S76) : rd_T76 (p ++ x :: t) (p.length : Int) = x := by simp [rd_T76]
theorem etaHop (x : S76) : (⟨x.f0, x.f1⟩ : S76) = x := rfl
def marksHop : Nat → Int → List S76
  | 0, _ => []
  | n + 1, a => ⟨a, a + 1⟩ :: marksHop n (a + 2)
theorem marksHop_length (n : Nat) : ∀ a, (marksHop n a).length = n := by
  induction n with
  | zero => intro a; rfl
  | succ n ih => intro a; simp [marksHop, ih]
def hopS (x : Int × Int) : S76 := ⟨x.1, x.2⟩
def hopP (h : S76) : Int × Int := (h.f0, h.f1)

end Go.Proofs.Ytfkjnpgpofcinaa.Pure
