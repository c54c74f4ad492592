import Derived.Test.YthambdfgkfkcmaaQBase
namespace Go.Proofs.Ythambdfgkfkcmaa.Q
open Go.RowKit Go.Proofs.YthambdfgkfkcmaaW.PrintWords
set_option linter.unusedVariables false
set_option linter.unusedSimpArgs false

/-- A number put to its place, once. -/
def putV : List Int → Int → List Int
  | [], n => [n]
  | x :: t, n => if x < n then x :: putV t n else if x = n then x :: t else n :: x :: t
theorem putV_length (n : Int) : ∀ l : List Int, l.length ≤ (putV l n).length ∧ (putV l n).length ≤ l.length + 1
  | [] => by simp [putV]
  | x :: t => by
    have := putV_length n t
    unfold putV
    split
    · simp; omega
    · split <;> simp
/-- j steps up. -/
def upN (ps : List Int) : Nat → Int → Int
  | 0, a => a
  | j + 1, a => upN ps j (if a ≥ 0 then rd ps a else a)
theorem putV_mem (n x : Int) : ∀ l : List Int, x ∈ putV l n ↔ x = n ∨ x ∈ l
  | [] => by simp [putV]
  | y :: t => by
    unfold putV
    by_cases h1 : y < n
    · rw [if_pos h1]
      simp only [List.mem_cons, putV_mem n x t]
      constructor
      · rintro (h | h | h)
        · exact .inr (.inl h)
        · exact .inl h
        · exact .inr (.inr h)
      · rintro (h | h | h)
        · exact .inr (.inl h)
        · exact .inl h
        · exact .inr (.inr h)
    · rw [if_neg h1]
      by_cases h2 : y = n
      · rw [if_pos h2]
        simp only [List.mem_cons]
        constructor
        · rintro (h | h)
          · exact .inr (.inl h)
          · exact .inr (.inr h)
        · rintro (h | h | h)
          · exact .inl (h.trans h2.symm)
          · exact .inl h
          · exact .inr h
      · rw [if_neg h2]; simp only [List.mem_cons]
theorem putV_sorted (n : Int) : ∀ l : List Int, l.Pairwise (fun a b => a < b) → (putV l n).Pairwise (fun a b => a < b)
  | [], _ => by simp [putV]
  | y :: t, h => by
    obtain ⟨h1, h2⟩ := List.pairwise_cons.1 h
    unfold putV
    by_cases h3 : y < n
    · rw [if_pos h3]
      refine List.pairwise_cons.2 ⟨fun z hz => ?_, putV_sorted n t h2⟩
      rcases (putV_mem n z t).1 hz with rfl | hz
      · exact h3
      · exact h1 z hz
    · rw [if_neg h3]
      by_cases h4 : y = n
      · rw [if_pos h4]; exact h
      · rw [if_neg h4]
        refine List.pairwise_cons.2 ⟨fun z hz => ?_, h⟩
        rcases List.mem_cons.1 hz with rfl | hz
        · omega
        · have := h1 z hz; omega
end Go.Proofs.Ythambdfgkfkcmaa.Q
