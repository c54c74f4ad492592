/- Plain facts on the kinds of the program, used by the texts of this claim. -/
import Derived.Test.YtpohlcjkabojcaaF0
import Derived.Test.YtpohlcjkabojcaaQBase
import Derived.Test.YtpohlcjkabojcaaQGraph
namespace Go.Proofs.Ytpohlcjkabojcaa.Pure
open Go.RowKit Go.Proofs.Ytpohlcjkabojcaa.P Go.Proofs.YtpohlcjkabojcaaW.PrintWords Go.Proofs.Ytpohlcjkabojcaa.Q
set_option linter.unusedVariables false
set_option linter.unusedSimpArgs false

-- needs QGraph
theorem rdE_at (p : List S86) (x : S86) (t : List S86) : rd_T86 (p ++ x :: t) (p.length : Int) = x := by simp [rd_T86]
/-- The ends and the cost. -/
def trip (e : S86) : Int × Int × Int := (e.f0, e.f1, e.f2)
theorem etaE (x : S86) : (⟨x.f0, x.f1, x.f2⟩ : S86) = x := rfl
/-- The ends alone. -/
def ends (l : List S86) : List (Int × Int) := l.map fun e => (e.f0, e.f1)
theorem ends_erase : ∀ (l : List S86) (i : Nat), ends (l.eraseIdx i) = (ends l).eraseIdx i
  | [], _ => rfl
  | x :: t, 0 => rfl
  | x :: t, i + 1 => by
    have := ends_erase t i
    simp only [ends, List.eraseIdx_cons_succ, List.map_cons] at this ⊢
    rw [this]
theorem ends_no (l : List S86) (s : Int) : ends (l.filter (fun x => decide (x.f0 ≠ s) && decide (x.f1 ≠ s))) = endsNo s (ends l) := by
  unfold ends endsNo
  rw [List.filter_map]
  rfl
theorem goodE_within {n : Int} {l : List S86} (h : goodE n (l.map trip) = true) : ∃ m : Nat, n = (m : Int) ∧ 1 ≤ m ∧ m ≤ 12 ∧ Within m (ends l) ∧ l.length ≤ 40 := by
  obtain ⟨m, rfl, h1, h2, h3, h4⟩ := goodE_open h
  refine ⟨m, rfl, h1, h2, fun e he => ?_, by simpa using h4⟩
  obtain ⟨x, hx, rfl⟩ := List.mem_map.1 he
  have := h3 (trip x) (List.mem_map_of_mem hx)
  simp only [trip] at this ⊢
  omega
theorem within_drop {n : Nat} {l : List S86} (h : Within n (ends l)) (cut : List Int) : Within n (ends (dropFrom cut 0 l)) := by
  intro e he
  obtain ⟨x, hx, rfl⟩ := List.mem_map.1 he
  exact h _ (List.mem_map_of_mem (dropFrom_sub cut l 0 x hx))
def marksE : Nat → Int → List S86
  | 0, _ => []
  | n + 1, a => ⟨a, a + 1, a + 2⟩ :: marksE n (a + 3)
theorem marksE_length (n : Nat) : ∀ a, (marksE n a).length = n := by
  induction n with
  | zero => intro a; rfl
  | succ n ih => intro a; simp [marksE, ih]

theorem rdLE_at (p : List S105) (x : S105) (t : List S105) : rd_T105 (p ++ x :: t) (p.length : Int) = x := by simp [rd_T105]
def toE (e : S105) : S86 := ⟨e.f0, e.f1, e.f2⟩
def G105 (x : S105) : Prop := (Lit.int .i64 x.f0).wf = true ∧ (Lit.int .i64 x.f1).wf = true ∧ (Lit.int .i64 x.f2).wf = true

theorem rdHop_at (p : List S95) (x : S95) (t : List S95) : rd_T95 (p ++ x :: t) (p.length : Int) = x := by simp [rd_T95]
theorem etaHop (x : S95) : (⟨x.f0, x.f1⟩ : S95) = x := rfl
def marksHop : Nat → Int → List S95
  | 0, _ => []
  | n + 1, a => ⟨a, a + 1⟩ :: marksHop n (a + 2)
theorem marksHop_length (n : Nat) : ∀ a, (marksHop n a).length = n := by
  induction n with
  | zero => intro a; rfl
  | succ n ih => intro a; simp [marksHop, ih]
def hopS (x : Int × Int) : S95 := ⟨x.1, x.2⟩
def hopP (h : S95) : Int × Int := (h.f0, h.f1)

theorem rdPlace_at (p : List S130) (x : S130) (t : List S130) : rd_T130 (p ++ x :: t) (p.length : Int) = x := by simp [rd_T130]
theorem etaPlace (x : S130) : (⟨x.f0, x.f1, x.f2⟩ : S130) = x := rfl
def pl3 (p : S130) : Int × Int × List Int := (p.f0, p.f1, p.f2)
/-- How many cells places take. -/
def plSize : List S130 → Nat
  | [] => 0
  | p :: t => p.f2.length + 1 + plSize t
theorem plSize_mem : ∀ (l : List S130) (n : Nat), plSize l ≤ n → l.length ≤ n ∧ ∀ p ∈ l, p.f2.length ≤ n
  | [], n, h => by simp
  | q :: t, n, h => by
    simp only [plSize] at h
    obtain ⟨h1, h2⟩ := plSize_mem t (n - q.f2.length - 1) (by omega)
    refine ⟨by simp; omega, fun p hp => ?_⟩
    rcases List.mem_cons.1 hp with rfl | hp
    · omega
    · have := h2 p hp; omega

theorem rdLPlace_at (p : List S129) (x : S129) (t : List S129) : rd_T129 (p ++ x :: t) (p.length : Int) = x := by simp [rd_T129]
def toPl (p : S129) : S130 := ⟨p.f0, p.f1, p.f2⟩
def G129 (x : S129) : Prop := (Lit.int .i64 x.f0).wf = true ∧ (Lit.int .i64 x.f1).wf = true ∧ (x.f2.length ≤ maxLen ∧ ∀ y ∈ x.f2, (Lit.int .i64 y).wf = true)
def lplSize : List S129 → Nat
  | [] => 0
  | p :: t => p.f2.length + 1 + lplSize t
theorem lplSize_map : ∀ l : List S129, plSize (l.map toPl) = lplSize l
  | [] => rfl
  | p :: t => by simp only [List.map_cons, plSize, lplSize, lplSize_map t, toPl]
theorem lplSize_len : ∀ l : List S129, l.length ≤ lplSize l
  | [] => Nat.le_refl _
  | p :: t => by have := lplSize_len t; simp only [lplSize, List.length_cons]; omega
/-- How many cells the inner lists take. -/
def lplIn : List S129 → Nat
  | [] => 0
  | p :: t => p.f2.length + lplIn t
theorem lplIn_eq : ∀ l : List S129, lplSize l = l.length + lplIn l
  | [] => rfl
  | p :: t => by have := lplIn_eq t; simp only [lplSize, lplIn, List.length_cons]; omega

end Go.Proofs.Ytpohlcjkabojcaa.Pure
