import Derived.Test.YthambdfgkfkcmaaQWay
import Derived.Test.YthambdfgkfkcmaaQTree
namespace Go.Proofs.Ythambdfgkfkcmaa.Q
open Go.RowKit Go.Proofs.YthambdfgkfkcmaaW.PrintWords
set_option linter.unusedVariables false
set_option linter.unusedSimpArgs false

/-! The neighbours, put to their places one by one; good edges, some left out. -/
def nearP (v : Int) : List (Int × Int × Int) → List Int → List Int
  | [], o => o
  | e :: t, o => nearP v t (if e.1 = v then putV o e.2.1 else if e.2.1 = v then putV o e.1 else o)
theorem nearP_mem (v s : Int) : ∀ (l : List (Int × Int × Int)) (o : List Int), s ∈ nearP v l o ↔ s ∈ o ∨ ∃ c, Adj l v s c
  | [], o => by simp [nearP, Adj]
  | e :: t, o => by
    obtain ⟨a, b, w⟩ := e
    unfold nearP
    rw [nearP_mem v s t]
    have key : ∀ c, Adj ((a, b, w) :: t) v s c ↔ (v = a ∧ s = b ∧ c = w) ∨ (s = a ∧ v = b ∧ c = w) ∨ Adj t v s c := fun c => by
      simp only [Adj, List.mem_cons, Prod.mk.injEq]
      constructor
      · rintro ((h | h) | (h | h))
        · exact .inl h
        · exact .inr (.inr (.inl h))
        · exact .inr (.inl h)
        · exact .inr (.inr (.inr h))
      · rintro (h | h | h | h)
        · exact .inl (.inl h)
        · exact .inr (.inl h)
        · exact .inl (.inr h)
        · exact .inr (.inr h)
    by_cases h1 : a = v
    · rw [if_pos h1, putV_mem]
      constructor
      · rintro ((h | h) | ⟨c, h⟩)
        · exact .inr ⟨w, (key w).2 (.inl ⟨h1.symm, h, rfl⟩)⟩
        · exact .inl h
        · exact .inr ⟨c, (key c).2 (.inr (.inr h))⟩
      · rintro (h | ⟨c, h⟩)
        · exact .inl (.inr h)
        · rcases (key c).1 h with h | h | h
          · exact .inl (.inl h.2.1)
          · exact .inl (.inl (by rw [h.1, h1, h.2.1]))
          · exact .inr ⟨c, h⟩
    · rw [if_neg h1]
      by_cases h2 : b = v
      · rw [if_pos h2, putV_mem]
        constructor
        · rintro ((h | h) | ⟨c, h⟩)
          · exact .inr ⟨w, (key w).2 (.inr (.inl ⟨h, h2.symm, rfl⟩))⟩
          · exact .inl h
          · exact .inr ⟨c, (key c).2 (.inr (.inr h))⟩
        · rintro (h | ⟨c, h⟩)
          · exact .inl (.inr h)
          · rcases (key c).1 h with h | h | h
            · exact absurd h.1.symm h1
            · exact .inl (.inl h.1)
            · exact .inr ⟨c, h⟩
      · rw [if_neg h2]
        constructor
        · rintro (h | ⟨c, h⟩)
          · exact .inl h
          · exact .inr ⟨c, (key c).2 (.inr (.inr h))⟩
        · rintro (h | ⟨c, h⟩)
          · exact .inl h
          · rcases (key c).1 h with h | h | h
            · exact absurd h.1.symm h1
            · exact absurd h.2.1.symm h2
            · exact .inr ⟨c, h⟩
theorem nearP_sorted (v : Int) : ∀ (l : List (Int × Int × Int)) (o : List Int), o.Pairwise (fun x y => x < y) → (nearP v l o).Pairwise (fun x y => x < y)
  | [], _, h => h
  | e :: t, o, h => by
    unfold nearP
    refine nearP_sorted v t _ ?_
    split
    · exact putV_sorted _ o h
    · split
      · exact putV_sorted _ o h
      · exact h
theorem nearP_eq {n : Nat} {l : List (Int × Int × Int)} (hl : In3 n l) (ho : Once l) (v : Int) : nearP v l [] = nearF l v 0 n := by
  have hlt : ∀ e ∈ l, e.1 < e.2.1 := fun e he => (hl e he).2.1
  refine sorted_ext (nearP_sorted v l [] List.Pairwise.nil) (nearF_sorted l v n 0) fun s => ?_
  rw [nearP_mem, nearF_mem]
  constructor
  · rintro (h | ⟨c, h⟩)
    · simp at h
    · have h1 := adj_in hl h
      have h2 := costV_adj l hlt ho h
      omega
  · rintro ⟨_, _, h⟩
    exact .inr ⟨_, costV_mem v s l hlt (by omega)⟩
end Go.Proofs.Ythambdfgkfkcmaa.Q
