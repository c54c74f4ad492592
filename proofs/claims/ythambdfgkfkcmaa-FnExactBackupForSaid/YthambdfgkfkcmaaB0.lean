/- Plain facts on the kinds of the program, used by the texts of this claim. -/
import Derived.Test.YthambdfgkfkcmaaF0
import Derived.Test.YthambdfgkfkcmaaQBase
import Derived.Test.YthambdfgkfkcmaaQFlow
import Derived.Test.YthambdfgkfkcmaaQGraph
namespace Go.Proofs.Ythambdfgkfkcmaa.Pure
open Go.RowKit Go.Proofs.Ythambdfgkfkcmaa.P Go.Proofs.YthambdfgkfkcmaaW.PrintWords Go.Proofs.Ythambdfgkfkcmaa.Q
set_option linter.unusedVariables false
set_option linter.unusedSimpArgs false

-- needs QGraph
theorem rdE_at (p : List S47) (x : S47) (t : List S47) : rd_T47 (p ++ x :: t) (p.length : Int) = x := by simp [rd_T47]
/-- The ends and the cost. -/
def trip (e : S47) : Int × Int × Int := (e.f0, e.f1, e.f2)
theorem etaE (x : S47) : (⟨x.f0, x.f1, x.f2⟩ : S47) = x := rfl
/-- The ends alone. -/
def ends (l : List S47) : List (Int × Int) := l.map fun e => (e.f0, e.f1)
theorem ends_erase : ∀ (l : List S47) (i : Nat), ends (l.eraseIdx i) = (ends l).eraseIdx i
  | [], _ => rfl
  | x :: t, 0 => rfl
  | x :: t, i + 1 => by
    have := ends_erase t i
    simp only [ends, List.eraseIdx_cons_succ, List.map_cons] at this ⊢
    rw [this]
theorem ends_no (l : List S47) (s : Int) : ends (l.filter (fun x => decide (x.f0 ≠ s) && decide (x.f1 ≠ s))) = endsNo s (ends l) := by
  unfold ends endsNo
  rw [List.filter_map]
  rfl
theorem goodE_within {n : Int} {l : List S47} (h : goodE n (l.map trip) = true) : ∃ m : Nat, n = (m : Int) ∧ 1 ≤ m ∧ m ≤ 12 ∧ Within m (ends l) ∧ l.length ≤ 40 := by
  obtain ⟨m, rfl, h1, h2, h3, h4⟩ := goodE_open h
  refine ⟨m, rfl, h1, h2, fun e he => ?_, by simpa using h4⟩
  obtain ⟨x, hx, rfl⟩ := List.mem_map.1 he
  have := h3 (trip x) (List.mem_map_of_mem hx)
  simp only [trip] at this ⊢
  omega
theorem within_drop {n : Nat} {l : List S47} (h : Within n (ends l)) (cut : List Int) : Within n (ends (dropFrom cut 0 l)) := by
  intro e he
  obtain ⟨x, hx, rfl⟩ := List.mem_map.1 he
  exact h _ (List.mem_map_of_mem (dropFrom_sub cut l 0 x hx))
def marksE : Nat → Int → List S47
  | 0, _ => []
  | n + 1, a => ⟨a, a + 1, a + 2⟩ :: marksE n (a + 3)
theorem marksE_length (n : Nat) : ∀ a, (marksE n a).length = n := by
  induction n with
  | zero => intro a; rfl
  | succ n ih => intro a; simp [marksE, ih]

theorem rdLE_at (p : List S69) (x : S69) (t : List S69) : rd_T69 (p ++ x :: t) (p.length : Int) = x := by simp [rd_T69]
def toE (e : S69) : S47 := ⟨e.f0, e.f1, e.f2⟩
def G69 (x : S69) : Prop := (Lit.int .i64 x.f0).wf = true ∧ (Lit.int .i64 x.f1).wf = true ∧ (Lit.int .i64 x.f2).wf = true

end Go.Proofs.Ythambdfgkfkcmaa.Pure
