import Derived.Test.YtefdgdloghhnaaaQTree
namespace Go.Proofs.Ytefdgdloghhnaaa.Q
open Go.RowKit Go.Proofs.YtefdgdloghhnaaaW.PrintWords
set_option linter.unusedVariables false
set_option linter.unusedSimpArgs false

/-! Parents whose ways up all end: what is seen from a spot over another one. -/
/-- How many spots lie on the way up. -/
def depF (ps : List Int) : Nat → Int → Nat
  | 0, _ => 0
  | j + 1, v => if v ≥ 0 then depF ps j (rd ps v) + 1 else 0
def dep (ps : List Int) (v : Int) : Nat := depF ps ps.length v
structure Forest (ps : List Int) : Prop where
  par : ∀ v : Int, 0 ≤ v → v < (ps.length : Int) → -1 ≤ rd ps v ∧ rd ps v < (ps.length : Int)
  ends : ∀ v : Int, 0 ≤ v → v < (ps.length : Int) → upN ps ps.length v < 0
theorem depF_le (ps : List Int) : ∀ (j : Nat) (v : Int), depF ps j v ≤ j
  | 0, _ => Nat.le_refl _
  | j + 1, v => by
    have := depF_le ps j (rd ps v)
    unfold depF; split <;> omega
theorem dep_le (ps : List Int) (v : Int) : dep ps v ≤ ps.length := depF_le ps _ v
theorem depF_neg (ps : List Int) {v : Int} (h : v < 0) : ∀ j, depF ps j v = 0
  | 0 => rfl
  | j + 1 => by simp only [depF, if_neg (show ¬ v ≥ 0 by omega)]
theorem depF_stable (ps : List Int) : ∀ (j j' : Nat) (v : Int), upN ps j v < 0 → j ≤ j' → depF ps j' v = depF ps j v
  | 0, j', v, h, _ => by rw [depF_neg ps (show v < 0 from h)]; rfl
  | j + 1, 0, v, h, hj => by omega
  | j + 1, j' + 1, v, h, hj => by
    by_cases h0 : v ≥ 0
    · simp only [upN, if_pos h0] at h
      simp only [depF, if_pos h0, depF_stable ps j j' _ h (by omega)]
    · simp only [depF, if_neg h0]
theorem Forest.dep_succ {ps : List Int} (F : Forest ps) {v : Int} (h0 : 0 ≤ v) (h1 : v < (ps.length : Int)) : dep ps v = dep ps (rd ps v) + 1 := by
  obtain ⟨m, hm⟩ : ∃ m, ps.length = m + 1 := ⟨ps.length - 1, by omega⟩
  have hu := F.ends v h0 h1
  unfold dep
  rw [hm] at hu ⊢
  simp only [upN, if_pos (show v ≥ 0 from h0)] at hu
  rw [depF_stable ps m (m + 1) _ hu (by omega)]
  simp only [depF, if_pos (show v ≥ 0 from h0)]

/-- k lies on the way up from v. -/
inductive Up (ps : List Int) (k : Int) : Int → Prop
  | refl : Up ps k k
  | step (v : Int) : 0 ≤ v → v < (ps.length : Int) → Up ps k (rd ps v) → Up ps k v
theorem Up.dep_le {ps : List Int} (F : Forest ps) {k v : Int} (h : Up ps k v) : dep ps k ≤ dep ps v := by
  induction h with
  | refl => exact Nat.le_refl _
  | step v h0 h1 _ ih => rw [F.dep_succ h0 h1]; omega
theorem Up.inv {ps : List Int} {k v : Int} (h : Up ps k v) : v = k ∨ (0 ≤ v ∧ v < (ps.length : Int) ∧ Up ps k (rd ps v)) := by
  cases h with
  | refl => exact .inl rfl
  | step _ h0 h1 h => exact .inr ⟨h0, h1, h⟩
theorem Up.parent {ps : List Int} {k v : Int} (h0 : 0 ≤ k) (h1 : k < (ps.length : Int)) (h : Up ps k v) : Up ps (rd ps k) v := by
  induction h with
  | refl => exact .step k h0 h1 .refl
  | step v a b _ ih => exact .step v a b ih
theorem Up.sibling {ps : List Int} (F : Forest ps) {k k' x v : Int} (h0 : 0 ≤ k) (h1 : k < (ps.length : Int)) (h0' : 0 ≤ k') (h1' : k' < (ps.length : Int)) (hk : rd ps k = x) (hk' : rd ps k' = x) (h : Up ps k v) (h' : Up ps k' v) : k = k' := by
  have d := F.dep_succ h0 h1
  have d' := F.dep_succ h0' h1'
  rw [hk] at d
  rw [hk'] at d'
  induction h with
  | refl =>
    rcases h'.inv with e | ⟨_, _, h'⟩
    · exact e
    · rw [hk] at h'; have := h'.dep_le F; omega
  | step v a b hu ih =>
    rcases h'.inv with e | ⟨_, _, h'⟩
    · subst e; rw [hk'] at hu; have := hu.dep_le F; omega
    · exact ih h'

/-- v lies on a's side, seen from b, which is joined with a. -/
def side (ps : List Int) (b a v : Int) : Prop := (rd ps a = b ∧ Up ps a v) ∨ (rd ps a ≠ b ∧ ¬ Up ps b v)
/-! What hops lead to. -/
/-! Both ends of a branch. -/
end Go.Proofs.Ytefdgdloghhnaaa.Q
