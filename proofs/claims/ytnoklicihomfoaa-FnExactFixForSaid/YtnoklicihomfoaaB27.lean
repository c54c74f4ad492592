/- What functions of the program answer, as plain functions: used by the laws of this claim. -/
import Derived.Test.YtnoklicihomfoaaB0
import Derived.Test.YtnoklicihomfoaaF27
namespace Go.Proofs.Ytnoklicihomfoaa.Pure
open Go.RowKit Go.Proofs.Ytnoklicihomfoaa.P Go.Proofs.YtnoklicihomfoaaW.PrintWords Go.Proofs.Ytnoklicihomfoaa.Q
set_option linter.unusedVariables false
set_option linter.unusedSimpArgs false

theorem impl_cost_loop (a b : Int) (t : List S84) : ∀ p : List S84, (p ++ t).length ≤ 9223372036854775806 → Ev (fun k => impl_cost.l0 k a b (p ++ t) ((p ++ t).length : Int) (p.length : Int)) (costV (t.map trip) a b) := by
  have hmn : mn a b = min a b := by unfold mn; split <;> omega
  have hmx : mx a b = max a b := by unfold mx; split <;> omega
  induction t with
  | nil =>
    intro p _
    refine ev_succ.1 ?_
    simp only [impl_cost.l0, c_end, Int.lt_irrefl, if_false, ev_some]
    rfl
  | cons x t ih =>
    intro p hb
    refine ev_succ.1 ?_
    have hn := ih (p ++ [x]) (by rwa [← c_app])
    rw [← c_app] at hn
    simp only [impl_cost.l0, c_lt, c_nn, rdE_at, c_next p x t hb, if_true, ev_ite, ev_some, hmn, hmx, List.map_cons, costV]
    by_cases h1 : x.f0 = min a b
    · by_cases h2 : x.f1 = max a b
      · simp [h1, h2, trip]
      · simpa [h1, h2, trip] using hn
    · simpa [h1, trip] using hn
theorem impl_cost_ev (l : List S84) (a b : Int) (h : l.length ≤ 9223372036854775806) : Ev (fun k => impl_cost.f k l a b) (costV (l.map trip) a b) := impl_cost_loop a b l [] h

theorem impl_Edge_eq (l : List S84) (h : l.length ≤ 1000000000) : impl_Edge.f l = some l := by
  unfold impl_Edge.f
  simp only [Option.bind_some, List.length_nil, Nat.zero_add, show (l.length < 5864062014805) = True from eq_true (by omega), if_true, List.nil_append]

theorem spec_l9Edge_loop (a b : Int) (t : List S84) : ∀ p : List S84, (∀ x ∈ t, x.f0 < x.f1) → (p ++ t).length ≤ 9223372036854775806 → Ev (fun k => spec_l9Edge.l0 k a b (p ++ t) ((p ++ t).length : Int) (p.length : Int)) (costV (t.map trip) a b) := by
  induction t with
  | nil =>
    intro p _ _
    refine ev_succ.1 ?_
    simp only [spec_l9Edge.l0, c_end, Int.lt_irrefl, if_false, ev_some]
    rfl
  | cons x t ih =>
    intro p ho hb
    refine ev_succ.1 ?_
    have hn := ih (p ++ [x]) (fun y hy => ho y (by simp [hy])) (by rwa [← c_app])
    rw [← c_app] at hn
    have hx := ho x (by simp)
    simp only [spec_l9Edge.l0, c_lt, c_nn, rdE_at, c_next p x t hb, if_true, ev_ite, ev_some, List.map_cons, costV]
    by_cases h0 : x.f0 = min a b ∧ x.f1 = max a b
    · have hc : (x.f0 = a ∧ x.f1 = b) ∨ (x.f0 = b ∧ x.f1 = a) := by omega
      have hr : (if (trip x).1 = min a b ∧ (trip x).2.1 = max a b then (trip x).2.2 else costV (t.map trip) a b) = x.f2 := if_pos h0
      rw [hr]
      rcases hc with ⟨h1, h2⟩ | ⟨h1, h2⟩
      · simp [h1, h2]
      · have h3 : ¬ b = a := by omega
        simp [h1, h2, h3]
    · have h1 : ¬ (x.f0 = a ∧ x.f1 = b) := by omega
      have h2 : ¬ (x.f0 = b ∧ x.f1 = a) := by omega
      have hr : (if (trip x).1 = min a b ∧ (trip x).2.1 = max a b then (trip x).2.2 else costV (t.map trip) a b) = costV (t.map trip) a b := if_neg h0
      rw [hr]
      by_cases h3 : x.f0 = a
      · have h4 : ¬ x.f1 = b := fun h => h1 ⟨h3, h⟩
        by_cases h5 : a = b
        · have h6 : ¬ x.f1 = a := by omega
          simpa [h3, h4, h5, h6] using hn
        · simpa [h3, h4, h5] using hn
      · by_cases h5 : x.f0 = b
        · have h6 : ¬ x.f1 = a := fun h => h2 ⟨h5, h⟩
          have h7 : ¬ b = a := by omega
          simpa [h5, h6, h7] using hn
        · simpa [h3, h5] using hn
theorem spec_l9Edge_ev (l : List S84) (a b : Int) (ho : ∀ x ∈ l, x.f0 < x.f1) (h : l.length ≤ 9223372036854775806) : Ev (fun k => spec_l9Edge.f k l a b) (costV (l.map trip) a b) := spec_l9Edge_loop a b l [] ho h

/-- The edge with the ends a and b put to its place. -/
def addS : List S84 → Int → Int → List S84
  | [], a, b => [⟨a, b, 1⟩]
  | x :: t, a, b => if x.f0 < a ∨ (x.f0 = a ∧ x.f1 < b) then x :: addS t a b else ⟨a, b, 1⟩ :: x :: t
theorem addS_mem (a b : Int) : ∀ (l : List S84) (x : S84), x ∈ addS l a b ↔ x = ⟨a, b, 1⟩ ∨ x ∈ l
  | [], x => by simp [addS]
  | y :: t, x => by
    unfold addS
    split
    · simp only [List.mem_cons, addS_mem a b t x]
      constructor
      · rintro (h | h | h)
        · exact .inr (.inl h)
        · exact .inl h
        · exact .inr (.inr h)
      · rintro (h | h | h)
        · exact .inr (.inl h)
        · exact .inl h
        · exact .inr (.inr h)
    · simp [List.mem_cons]
theorem addS_length (a b : Int) : ∀ (l : List S84), (addS l a b).length = l.length + 1
  | [] => rfl
  | y :: t => by
    unfold addS
    split
    · simp [addS_length a b t]
    · simp
theorem spec_l16Add_loop (a b : Int) (t : List S84) : ∀ p : List S84, (p ++ t).length ≤ 1000000000 → Ev (fun k => spec_l16Add.l0 k (p ++ t) a b (p.length : Int)) (p ++ addS t a b) := by
  induction t with
  | nil =>
    intro p hb
    refine ev_succ.1 ?_
    rw [List.append_nil] at hb ⊢
    have e1 : ((p.length : Int) ≤ (p.length : Int)) = True := eq_true (Int.le_refl _)
    have e2 : p.take ((p.length : Int)).toNat = p := by simp
    have e3 : p.drop ((p.length : Int)).toNat = [] := by simp
    have e4 : (p.length < 5864062014805) = True := eq_true (by omega)
    have e5 : ((p ++ [(⟨a, b, 1⟩ : S84)]).length < 5864062014805) = True := eq_true (by simp; omega)
    simp only [spec_l16Add.l0, Int.lt_irrefl, if_false, Option.bind_some, c_nn, if_true, e1, e2, e3, e4, e5, List.nil_append, List.length_nil, Nat.zero_add, Nat.add_zero, List.append_nil, ev_some, addS]
  | cons x t ih =>
    intro p hb
    refine ev_succ.1 ?_
    have e1 : ((p.length : Int) ≤ ((p ++ x :: t).length : Int)) = True := eq_true (by simp; omega)
    have e2 : (p ++ x :: t).take ((p.length : Int)).toNat = p := by simp
    have e3 : (p ++ x :: t).drop ((p.length : Int)).toNat = x :: t := by simp
    have e4 : (p.length < 5864062014805) = True := eq_true (by simp at hb; omega)
    have e5 : ((p ++ [(⟨a, b, 1⟩ : S84)]).length + (x :: t).length < 5864062014805) = True := eq_true (by simp at hb ⊢; omega)
    simp only [spec_l16Add.l0, c_lt, c_nn, rdE_at, c_next p x t (by omega), Option.bind_some, if_true, e1, e2, e3, e4, e5, List.nil_append, List.length_nil, Nat.zero_add, ev_ite, ev_some, addS]
    have h1 := ih (p ++ [x]) (by rwa [← c_app])
    rw [← c_app] at h1
    by_cases h : x.f0 < a
    · simpa [h] using h1
    · by_cases h2 : x.f0 = a
      · by_cases h3 : x.f1 < b
        · simpa [h2, h3] using h1
        · simp [h2, h3]
      · simp [h, h2]
theorem spec_l16Add_ev (l : List S84) (a b : Int) (h : l.length ≤ 1000000000) : Ev (fun k => spec_l16Add.f k l a b) (addS l a b) := spec_l16Add_loop a b l [] h

end Go.Proofs.Ytnoklicihomfoaa.Pure
