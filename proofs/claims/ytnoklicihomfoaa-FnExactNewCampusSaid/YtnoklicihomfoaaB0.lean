/- Plain facts on the kinds of the program, used by the texts of this claim. -/
import Derived.Test.YtnoklicihomfoaaF0
import Derived.Test.YtnoklicihomfoaaQBase
import Derived.Test.YtnoklicihomfoaaQGraph
import Derived.Test.YtnoklicihomfoaaQHaves
import Derived.Test.YtnoklicihomfoaaQTree
namespace Go.Proofs.Ytnoklicihomfoaa.Pure
open Go.RowKit Go.Proofs.Ytnoklicihomfoaa.P Go.Proofs.YtnoklicihomfoaaW.PrintWords Go.Proofs.Ytnoklicihomfoaa.Q
set_option linter.unusedVariables false
set_option linter.unusedSimpArgs false

-- needs QGraph
theorem rdE_at (p : List S84) (x : S84) (t : List S84) : rd_T84 (p ++ x :: t) (p.length : Int) = x := by simp [rd_T84]
/-- The ends and the cost. -/
def trip (e : S84) : Int × Int × Int := (e.f0, e.f1, e.f2)
theorem etaE (x : S84) : (⟨x.f0, x.f1, x.f2⟩ : S84) = x := rfl
/-- The ends alone. -/
def ends (l : List S84) : List (Int × Int) := l.map fun e => (e.f0, e.f1)
theorem ends_erase : ∀ (l : List S84) (i : Nat), ends (l.eraseIdx i) = (ends l).eraseIdx i
  | [], _ => rfl
  | x :: t, 0 => rfl
  | x :: t, i + 1 => by
    have := ends_erase t i
    simp only [ends, List.eraseIdx_cons_succ, List.map_cons] at this ⊢
    rw [this]
theorem ends_no (l : List S84) (s : Int) : ends (l.filter (fun x => decide (x.f0 ≠ s) && decide (x.f1 ≠ s))) = endsNo s (ends l) := by
  unfold ends endsNo
  rw [List.filter_map]
  rfl
theorem goodE_within {n : Int} {l : List S84} (h : goodE n (l.map trip) = true) : ∃ m : Nat, n = (m : Int) ∧ 1 ≤ m ∧ m ≤ 12 ∧ Within m (ends l) ∧ l.length ≤ 40 := by
  obtain ⟨m, rfl, h1, h2, h3, h4⟩ := goodE_open h
  refine ⟨m, rfl, h1, h2, fun e he => ?_, by simpa using h4⟩
  obtain ⟨x, hx, rfl⟩ := List.mem_map.1 he
  have := h3 (trip x) (List.mem_map_of_mem hx)
  simp only [trip] at this ⊢
  omega
theorem within_drop {n : Nat} {l : List S84} (h : Within n (ends l)) (cut : List Int) : Within n (ends (dropFrom cut 0 l)) := by
  intro e he
  obtain ⟨x, hx, rfl⟩ := List.mem_map.1 he
  exact h _ (List.mem_map_of_mem (dropFrom_sub cut l 0 x hx))
def marksE : Nat → Int → List S84
  | 0, _ => []
  | n + 1, a => ⟨a, a + 1, a + 2⟩ :: marksE n (a + 3)
theorem marksE_length (n : Nat) : ∀ a, (marksE n a).length = n := by
  induction n with
  | zero => intro a; rfl
  | succ n ih => intro a; simp [marksE, ih]

theorem rdLE_at (p : List S86) (x : S86) (t : List S86) : rd_T86 (p ++ x :: t) (p.length : Int) = x := by simp [rd_T86]
def toE (e : S86) : S84 := ⟨e.f0, e.f1, e.f2⟩
def G86 (x : S86) : Prop := (Lit.int .i64 x.f0).wf = true ∧ (Lit.int .i64 x.f1).wf = true ∧ (Lit.int .i64 x.f2).wf = true

theorem rdHave_at (p : List S104) (x : S104) (t : List S104) : rd_T104 (p ++ x :: t) (p.length : Int) = x := by simp [rd_T104]
theorem etaHave (x : S104) : (⟨x.f0, x.f1⟩ : S104) = x := rfl
def marksHave : Nat → Int → List S104
  | 0, _ => []
  | n + 1, a => ⟨a, a + 1⟩ :: marksHave n (a + 2)
theorem marksHave_length (n : Nat) : ∀ a, (marksHave n a).length = n := by
  induction n with
  | zero => intro a; rfl
  | succ n ih => intro a; simp [marksHave, ih]
/-- Who, and the number. -/
def hpr (e : S104) : Int × Int := (e.f0, e.f1)

theorem rdLHave_at (p : List S106) (x : S106) (t : List S106) : rd_T106 (p ++ x :: t) (p.length : Int) = x := by simp [rd_T106]
def toHave (e : S106) : S104 := ⟨e.f0, e.f1⟩
def G106 (x : S106) : Prop := (Lit.int .i64 x.f0).wf = true ∧ (Lit.int .i64 x.f1).wf = true

theorem rdPlace_at (p : List S118) (x : S118) (t : List S118) : rd_T118 (p ++ x :: t) (p.length : Int) = x := by simp [rd_T118]
theorem etaPlace (x : S118) : (⟨x.f0, x.f1, x.f2⟩ : S118) = x := rfl
def pl3 (p : S118) : Int × Int × List Int := (p.f0, p.f1, p.f2)
/-- How many cells places take. -/
def plSize : List S118 → Nat
  | [] => 0
  | p :: t => p.f2.length + 1 + plSize t
theorem plSize_mem : ∀ (l : List S118) (n : Nat), plSize l ≤ n → l.length ≤ n ∧ ∀ p ∈ l, p.f2.length ≤ n
  | [], n, h => by simp
  | q :: t, n, h => by
    simp only [plSize] at h
    obtain ⟨h1, h2⟩ := plSize_mem t (n - q.f2.length - 1) (by omega)
    refine ⟨by simp; omega, fun p hp => ?_⟩
    rcases List.mem_cons.1 hp with rfl | hp
    · omega
    · have := h2 p hp; omega

theorem rdLPlace_at (p : List S141) (x : S141) (t : List S141) : rd_T141 (p ++ x :: t) (p.length : Int) = x := by simp [rd_T141]
def toPl (p : S141) : S118 := ⟨p.f0, p.f1, p.f2⟩
def G141 (x : S141) : Prop := (Lit.int .i64 x.f0).wf = true ∧ (Lit.int .i64 x.f1).wf = true ∧ (x.f2.length ≤ maxLen ∧ ∀ y ∈ x.f2, (Lit.int .i64 y).wf = true)
def lplSize : List S141 → Nat
  | [] => 0
  | p :: t => p.f2.length + 1 + lplSize t
theorem lplSize_map : ∀ l : List S141, plSize (l.map toPl) = lplSize l
  | [] => rfl
  | p :: t => by simp only [List.map_cons, plSize, lplSize, lplSize_map t, toPl]
theorem lplSize_len : ∀ l : List S141, l.length ≤ lplSize l
  | [] => Nat.le_refl _
  | p :: t => by have := lplSize_len t; simp only [lplSize, List.length_cons]; omega
/-- How many cells the inner lists take. -/
def lplIn : List S141 → Nat
  | [] => 0
  | p :: t => p.f2.length + lplIn t
theorem lplIn_eq : ∀ l : List S141, lplSize l = l.length + lplIn l
  | [] => rfl
  | p :: t => by have := lplIn_eq t; simp only [lplSize, lplIn, List.length_cons]; omega

end Go.Proofs.Ytnoklicihomfoaa.Pure
