import Derived.Test.YtefdgdloghhnaaaW
namespace Go.Proofs.Ytefdgdloghhnaaa.Q
open Go.RowKit Go.Proofs.YtefdgdloghhnaaaW.PrintWords
set_option linter.unusedVariables false
set_option linter.unusedSimpArgs false

/-! What becomes of a printed function with ever more rounds. -/
theorem ev_ite {α : Type} {c : Prop} [Decidable c] {g h : Nat → Option α} {r : α} : Ev (fun k => if c then g k else h k) r ↔ if c then Ev g r else Ev h r := by
  split <;> rename_i hc <;> simp [hc]
theorem ev_some {α : Type} {a r : α} : Ev (fun _ => some a) r ↔ a = r :=
  ⟨fun ⟨K, h⟩ => Option.some.inj (h K (Nat.le_refl _)), fun h => h ▸ Ev.now _⟩
theorem ev_bind {α β : Type} {g : Nat → Option α} {f : Nat → α → Option β} {a : α} {r : β} (h : Ev g a) : Ev (fun k => (g k).bind (f k)) r ↔ Ev (fun k => f k a) r := by
  obtain ⟨K, hK⟩ := h
  constructor
  · rintro ⟨K', h'⟩
    refine ⟨max K K', fun k hk => ?_⟩
    have h2 : (g k).bind (f k) = some r := h' k (by omega)
    rw [hK k (by omega)] at h2
    exact h2
  · rintro ⟨K', h'⟩
    refine ⟨max K K', fun k hk => ?_⟩
    show (g k).bind (f k) = some r
    rw [hK k (by omega)]
    exact h' k (by omega)
theorem ev_succ {α : Type} {g : Nat → Option α} {r : α} : Ev (fun k => g (k + 1)) r ↔ Ev g r := by
  constructor
  · rintro ⟨K, h⟩
    refine ⟨K + 1, fun k hk => ?_⟩
    obtain ⟨m, rfl⟩ : ∃ m, k = m + 1 := ⟨k - 1, by omega⟩
    exact h m (by omega)
  · rintro ⟨K, h⟩
    exact ⟨K, fun k hk => h (k + 1) (by omega)⟩
/-! A loop over a list: p lies behind, t ahead. -/
section
variable {α : Type}
theorem c_lt (p : List α) (x : α) (t : List α) : ((p.length : Int) < ((p ++ x :: t).length : Int)) = True := eq_true (by simp; omega)
theorem c_end (p : List α) : ((p.length : Int) < ((p ++ ([] : List α)).length : Int)) = False := eq_false (by simp)
theorem c_nn (n : Nat) : (0 ≤ (n : Int)) = True := eq_true (by omega)
theorem c_next (p : List α) (x : α) (t : List α) (h : (p ++ x :: t).length ≤ 9223372036854775806) : wrap64 ((p.length : Int) + 1) = ((p ++ [x]).length : Int) := by
  simp only [List.length_append, List.length_cons, List.length_nil] at h ⊢
  unfold wrap64
  omega
theorem c_app (p : List α) (x : α) (t : List α) : p ++ x :: t = (p ++ [x]) ++ t := by simp
theorem c_rd (p : List Int) (x : Int) (t : List Int) : rd (p ++ x :: t) (p.length : Int) = x := by simp [rd]
theorem w64 {n : Int} (h0 : -9223372036854775808 ≤ n) (h1 : n ≤ 9223372036854775807) : wrap64 n = n := by unfold wrap64; omega
end

/-- lo ≤ x ≤ hi. -/
def inB (lo hi x : Int) : Bool := decide (lo ≤ x ∧ x ≤ hi)
theorem inB_iff {lo hi x : Int} : inB lo hi x = true ↔ lo ≤ x ∧ x ≤ hi := by simp [inB]
/-- All are in lo .. hi. -/
def allB (lo hi : Int) (l : List Int) : Bool := l.all (inB lo hi)
theorem allB_nil {lo hi : Int} : allB lo hi [] = true := rfl
theorem allB_cons {lo hi x : Int} {t : List Int} : allB lo hi (x :: t) = (inB lo hi x && allB lo hi t) := rfl
end Go.Proofs.Ytefdgdloghhnaaa.Q
