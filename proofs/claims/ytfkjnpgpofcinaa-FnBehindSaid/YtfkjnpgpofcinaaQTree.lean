import Derived.Test.YtfkjnpgpofcinaaQBase
namespace Go.Proofs.Ytfkjnpgpofcinaa.Q
open Go.RowKit Go.Proofs.YtfkjnpgpofcinaaW.PrintWords
set_option linter.unusedVariables false
set_option linter.unusedSimpArgs false

/-- A number put to its place, once. -/
def putV : List Int → Int → List Int
  | [], n => [n]
  | x :: t, n => if x < n then x :: putV t n else if x = n then x :: t else n :: x :: t
theorem putV_last : ∀ (l : List Int) (n : Int), (∀ y ∈ l, y < n) → putV l n = l ++ [n]
  | [], n, _ => rfl
  | x :: t, n, h => by
    simp only [putV, h x (by simp), if_true, List.cons_append]
    rw [putV_last t n (fun y hy => h y (by simp [hy]))]
theorem putV_length (n : Int) : ∀ l : List Int, l.length ≤ (putV l n).length ∧ (putV l n).length ≤ l.length + 1
  | [] => by simp [putV]
  | x :: t => by
    have := putV_length n t
    unfold putV
    split
    · simp; omega
    · split <;> simp
/-- j steps up. -/
def upN (ps : List Int) : Nat → Int → Int
  | 0, a => a
  | j + 1, a => upN ps j (if a ≥ 0 then rd ps a else a)
/-- Up, till nothing is above: within so many steps, all parents met being in their bounds. -/
def endsB (ps : List Int) (m : Int) : Nat → Int → Bool
  | 0, a => decide (a < 0)
  | j + 1, a => if a ≥ 0 then inB (-1) m (rd ps a) && endsB ps m j (rd ps a) else true
theorem upN_neg (ps : List Int) : ∀ (j : Nat) (a : Int), a < 0 → upN ps j a = a
  | 0, a, _ => rfl
  | j + 1, a, h => by simp only [upN, if_neg (show ¬ a ≥ 0 by omega)]; exact upN_neg ps j a h
theorem rd_mem {ps : List Int} {a : Int} (h0 : 0 ≤ a) (h1 : a < (ps.length : Int)) : rd ps a ∈ ps := by
  unfold rd
  have : a.toNat < ps.length := by omega
  rw [List.getD_eq_getElem?_getD, List.getElem?_eq_getElem this]
  exact List.getElem_mem this
theorem ends_up (ps : List Int) (h : allB (-1) ((ps.length : Int) - 1) ps = true) : ∀ (j : Nat) (a : Int), a < (ps.length : Int) → endsB ps ((ps.length : Int) - 1) j a = decide (upN ps j a < 0)
  | 0, a, _ => rfl
  | j + 1, a, ha => by
    by_cases h0 : a ≥ 0
    · have hr := allB_iff.1 h _ (rd_mem h0 ha)
      have hi : inB (-1) ((ps.length : Int) - 1) (rd ps a) = true := inB_iff.2 hr
      simp only [endsB, upN, h0, if_true, hi, Bool.true_and]
      exact ends_up ps h j _ (by omega)
    · simp only [endsB, upN, h0, if_false]
      rw [upN_neg ps j a (by omega)]
      simp; omega
/-- All of t, whose first number is i, are in their bounds, and from each the way up ends. -/
def goodFrom (ps : List Int) (m : Int) : Nat → List Int → Bool
  | _, [] => true
  | i, x :: t => inB (-1) m x && endsB ps m ps.length i && goodFrom ps m (i + 1) t
/-- From each of t, whose first number is i, the way up ends. -/
def upsB (ps : List Int) : Nat → Nat → Bool
  | _, 0 => true
  | i, n + 1 => decide (upN ps ps.length i < 0) && upsB ps (i + 1) n
/-- Good parents. -/
def goodP (ps : List Int) : Bool := inB 1 12 ps.length && (allB (-1) ((ps.length : Int) - 1) ps && upsB ps 0 ps.length)
theorem goodFrom_all (ps : List Int) (m : Int) : ∀ (t : List Int) (i : Nat), goodFrom ps m i t = true → allB (-1) m t = true
  | [], _, _ => rfl
  | x :: t, i, h => by
    simp only [goodFrom, Bool.and_eq_true] at h
    rw [allB_cons, h.1.1, goodFrom_all ps m t _ h.2]; rfl
theorem goodFrom_ups (ps : List Int) (h : allB (-1) ((ps.length : Int) - 1) ps = true) : ∀ (t p : List Int), p ++ t = ps → goodFrom ps ((ps.length : Int) - 1) p.length t = upsB ps p.length t.length
  | [], p, _ => rfl
  | x :: t, p, e => by
    have hx : inB (-1) ((ps.length : Int) - 1) x = true := inB_iff.2 (allB_iff.1 h x (by rw [← e]; simp))
    have hl : (p.length : Int) < (ps.length : Int) := by rw [← e]; simp; omega
    simp only [goodFrom, upsB, hx, Bool.true_and, List.length_cons]
    rw [ends_up ps h ps.length _ hl]
    have := goodFrom_ups ps h t (p ++ [x]) (by rw [← e]; simp)
    simp only [List.length_append, List.length_cons, List.length_nil] at this
    rw [this]
theorem goodFrom_eq (ps : List Int) : goodFrom ps ((ps.length : Int) - 1) 0 ps = (allB (-1) ((ps.length : Int) - 1) ps && upsB ps 0 ps.length) := by
  cases h : allB (-1) ((ps.length : Int) - 1) ps
  · cases h2 : goodFrom ps ((ps.length : Int) - 1) 0 ps
    · rfl
    · rw [goodFrom_all ps _ ps 0 h2] at h; cases h
  · simpa using goodFrom_ups ps h ps [] rfl
theorem upsB_get (ps : List Int) : ∀ (n i : Nat), upsB ps i n = true → ∀ j, i ≤ j → j < i + n → upN ps ps.length j < 0
  | 0, i, _, j, h1, h2 => by omega
  | n + 1, i, h, j, h1, h2 => by
    simp only [upsB, Bool.and_eq_true, decide_eq_true_eq] at h
    by_cases e : j = i
    · rw [e]; exact h.1
    · exact upsB_get ps n (i + 1) h.2 j (by omega) (by omega)
/-- All that a spot is joined with by parents: of t, whose first number is i. -/
def joinFrom (ps : List Int) (at_ : Int) : Nat → List Int → List Int
  | _, [] => []
  | i, x :: t => if x = at_ ∨ rd ps at_ = i then (i : Int) :: joinFrom ps at_ (i + 1) t else joinFrom ps at_ (i + 1) t
def joinL (ps : List Int) (at_ : Int) : List Int := joinFrom ps at_ 0 ps
theorem joinFrom_length (ps : List Int) (at_ : Int) : ∀ (t : List Int) (i : Nat), (joinFrom ps at_ i t).length ≤ t.length
  | [], _ => by simp [joinFrom]
  | x :: t, i => by
    have := joinFrom_length ps at_ t (i + 1)
    unfold joinFrom
    split <;> simp <;> omega
theorem putV_mem (n x : Int) : ∀ l : List Int, x ∈ putV l n ↔ x = n ∨ x ∈ l
  | [] => by simp [putV]
  | y :: t => by
    unfold putV
    by_cases h1 : y < n
    · rw [if_pos h1]
      simp only [List.mem_cons, putV_mem n x t]
      constructor
      · rintro (h | h | h)
        · exact .inr (.inl h)
        · exact .inl h
        · exact .inr (.inr h)
      · rintro (h | h | h)
        · exact .inr (.inl h)
        · exact .inl h
        · exact .inr (.inr h)
    · rw [if_neg h1]
      by_cases h2 : y = n
      · rw [if_pos h2]
        simp only [List.mem_cons]
        constructor
        · rintro (h | h)
          · exact .inr (.inl h)
          · exact .inr (.inr h)
        · rintro (h | h | h)
          · exact .inl (h.trans h2.symm)
          · exact .inl h
          · exact .inr h
      · rw [if_neg h2]; simp only [List.mem_cons]
theorem putV_sorted (n : Int) : ∀ l : List Int, l.Pairwise (fun a b => a < b) → (putV l n).Pairwise (fun a b => a < b)
  | [], _ => by simp [putV]
  | y :: t, h => by
    obtain ⟨h1, h2⟩ := List.pairwise_cons.1 h
    unfold putV
    by_cases h3 : y < n
    · rw [if_pos h3]
      refine List.pairwise_cons.2 ⟨fun z hz => ?_, putV_sorted n t h2⟩
      rcases (putV_mem n z t).1 hz with rfl | hz
      · exact h3
      · exact h1 z hz
    · rw [if_neg h3]
      by_cases h4 : y = n
      · rw [if_pos h4]; exact h
      · rw [if_neg h4]
        refine List.pairwise_cons.2 ⟨fun z hz => ?_, h⟩
        rcases List.mem_cons.1 hz with rfl | hz
        · omega
        · have := h1 z hz; omega
theorem putV_same (n : Int) : ∀ l : List Int, l.Pairwise (fun a b => a < b) → n ∈ l → putV l n = l
  | [], _, hm => by cases hm
  | y :: t, h, hm => by
    obtain ⟨h1, h2⟩ := List.pairwise_cons.1 h
    unfold putV
    rcases List.mem_cons.1 hm with rfl | hm
    · rw [if_neg (by omega), if_pos rfl]
    · rw [if_pos (h1 n hm), putV_same n t h2 hm]
theorem putV_perm (n : Int) : ∀ l : List Int, n ∉ l → (putV l n).Perm (l ++ [n])
  | [], _ => by simp [putV]
  | y :: t, h => by
    have hy : ¬ y = n := fun e => h (by simp [e])
    unfold putV
    by_cases h1 : y < n
    · rw [if_pos h1]
      exact (putV_perm n t (fun hm => h (by simp [hm]))).cons y
    · rw [if_neg h1, if_neg hy]
      exact (List.perm_append_comm (l₁ := [n]) (l₂ := y :: t))
/-- What is sorted and strictly rising stays as it is, for all that has the same numbers. -/
theorem sort_of_perm {o s : List Int} (h : o.Perm s) (hs : s.Pairwise (fun a b => a < b)) : (o.mergeSort fun x y => decide (x ≤ y)) = s := by
  refine List.Perm.eq_of_pairwise (le := fun a b => a ≤ b) (fun a b _ _ h1 h2 => Int.le_antisymm h1 h2) ?_ (hs.imp (fun h => Int.le_of_lt h)) ((List.mergeSort_perm o _).trans h)
  have := List.pairwise_mergeSort (le := fun x y : Int => decide (x ≤ y)) (fun a b c h1 h2 => by simp only [decide_eq_true_eq] at *; omega) (fun a b => by simp only [Bool.or_eq_true, decide_eq_true_eq]; omega) o
  exact this.imp (fun h => by simpa using h)
end Go.Proofs.Ytfkjnpgpofcinaa.Q
