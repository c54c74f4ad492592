import Derived.Test.YthambdfgkfkcmaaQShort
namespace Go.Proofs.Ythambdfgkfkcmaa.Q
open Go.RowKit Go.Proofs.YthambdfgkfkcmaaW.PrintWords
set_option linter.unusedVariables false
set_option linter.unusedSimpArgs false

/-! The neighbours of a spot, those of them that lie nearer to another one, and the way there. -/
def nearF (l : List (Int × Int × Int)) (v : Int) : Nat → Nat → List Int
  | _, 0 => []
  | i, d + 1 => if costV l v (i : Int) > 0 then (i : Int) :: nearF l v (i + 1) d else nearF l v (i + 1) d
theorem nearF_mem (l : List (Int × Int × Int)) (v s : Int) : ∀ (d i : Nat), s ∈ nearF l v i d ↔ (i : Int) ≤ s ∧ s < (i : Int) + (d : Int) ∧ costV l v s > 0
  | 0, i => by simp only [nearF, List.not_mem_nil, false_iff]; omega
  | d + 1, i => by
    have ih := nearF_mem l v s d (i + 1)
    unfold nearF
    by_cases h : costV l v (i : Int) > 0
    · rw [if_pos h, List.mem_cons, ih]
      constructor
      · rintro (rfl | h2)
        · exact ⟨by omega, by omega, h⟩
        · exact ⟨by omega, by omega, h2.2.2⟩
      · intro h2
        by_cases e : s = (i : Int)
        · exact .inl e
        · exact .inr ⟨by omega, by omega, h2.2.2⟩
    · rw [if_neg h, ih]
      constructor
      · intro h2; exact ⟨by omega, by omega, h2.2.2⟩
      · intro h2
        by_cases e : s = (i : Int)
        · rw [e] at h2; exact absurd h2.2.2 h
        · exact ⟨by omega, by omega, h2.2.2⟩
theorem nearF_length (l : List (Int × Int × Int)) (v : Int) : ∀ (d i : Nat), (nearF l v i d).length ≤ d
  | 0, _ => by simp [nearF]
  | d + 1, i => by
    have := nearF_length l v d (i + 1)
    unfold nearF
    split <;> simp <;> omega
theorem nearF_sorted (l : List (Int × Int × Int)) (v : Int) : ∀ (d i : Nat), (nearF l v i d).Pairwise (fun a b => a < b)
  | 0, _ => by simp [nearF]
  | d + 1, i => by
    unfold nearF
    split
    · refine List.pairwise_cons.2 ⟨fun s hs => ?_, nearF_sorted l v d (i + 1)⟩
      have := (nearF_mem l v s d (i + 1)).1 hs
      omega
    · exact nearF_sorted l v d (i + 1)
theorem sorted_ext {a b : List Int} (ha : a.Pairwise (fun x y => x < y)) (hb : b.Pairwise (fun x y => x < y)) (h : ∀ x, x ∈ a ↔ x ∈ b) : a = b :=
  List.Perm.eq_of_pairwise (le := fun a b => a ≤ b) (fun a b _ _ h1 h2 => Int.le_antisymm h1 h2) (ha.imp (fun h => Int.le_of_lt h)) (hb.imp (fun h => Int.le_of_lt h)) ((List.perm_ext_iff_of_nodup (ha.imp (fun h => Int.ne_of_lt h)) (hb.imp (fun h => Int.ne_of_lt h))).2 h)
/-- One edge between two spots. -/
def Once (l : List (Int × Int × Int)) : Prop := (l.map fun x => (x.1, x.2.1)).Nodup
theorem costV_mem (v s : Int) : ∀ l : List (Int × Int × Int), (∀ e ∈ l, e.1 < e.2.1) → costV l v s ≠ 0 → Adj l v s (costV l v s)
  | [], _, h => by simp [costV] at h
  | e :: t, ho, h => by
    obtain ⟨a, b, c⟩ := e
    unfold costV at h ⊢
    by_cases h0 : a = min v s ∧ b = max v s
    · simp only [h0, and_self, if_true] at h ⊢
      rcases Int.le_total v s with h1 | h1
      · left; rw [show min v s = v by omega, show max v s = s by omega]; simp
      · right; rw [show min v s = s by omega, show max v s = v by omega]; simp
    · simp only [h0, if_false] at h ⊢
      rcases costV_mem v s t (fun e he => ho e (by simp [he])) h with h2 | h2
      · exact .inl (by simp [h2])
      · exact .inr (by simp [h2])
theorem costV_adj {v s c : Int} : ∀ l : List (Int × Int × Int), (∀ e ∈ l, e.1 < e.2.1) → Once l → Adj l v s c → costV l v s = c
  | [], _, _, h => by simp [Adj] at h
  | e :: t, ho, hn, h => by
    obtain ⟨a, b, w⟩ := e
    have he := ho (a, b, w) (by simp)
    simp only at he
    obtain ⟨hn1, hn2⟩ := List.nodup_cons.1 (show ((a, b) :: t.map fun x => (x.1, x.2.1)).Nodup from hn)
    have hno : ∀ c', (a, b, c') ∉ t := fun c' hm => hn1 (List.mem_map.2 ⟨_, hm, rfl⟩)
    unfold costV
    by_cases h0 : a = min v s ∧ b = max v s
    · simp only [h0, and_self, if_true]
      rcases h with h | h
      · rcases List.mem_cons.1 h with h | h
        · injection h with _ h; injection h with _ h; exact h.symm
        · have hlt := ho (v, s, c) (by simp [h])
          simp only at hlt
          refine absurd h ?_
          have := hno c
          rwa [h0.1, h0.2, show min v s = v by omega, show max v s = s by omega] at this
      · rcases List.mem_cons.1 h with h | h
        · injection h with _ h; injection h with _ h; exact h.symm
        · have hlt := ho (s, v, c) (by simp [h])
          simp only at hlt
          refine absurd h ?_
          have := hno c
          rwa [h0.1, h0.2, show min v s = s by omega, show max v s = v by omega] at this
    · simp only [h0, if_false]
      refine costV_adj t (fun e he => ho e (by simp [he])) hn2 ?_
      rcases h with h | h
      · rcases List.mem_cons.1 h with h | h
        · injection h with h1 h; injection h with h2 _
          exact absurd ⟨by omega, by omega⟩ h0
        · exact .inl h
      · rcases List.mem_cons.1 h with h | h
        · injection h with h1 h; injection h with h2 _
          exact absurd ⟨by omega, by omega⟩ h0
        · exact .inr h
end Go.Proofs.Ythambdfgkfkcmaa.Q
