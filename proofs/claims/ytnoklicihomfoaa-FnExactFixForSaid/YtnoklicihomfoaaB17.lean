/- What functions of the program answer, as plain functions: used by the laws of this claim. -/
import Derived.Test.YtnoklicihomfoaaB0
import Derived.Test.YtnoklicihomfoaaF17
import Derived.Test.YtnoklicihomfoaaB14
import Derived.Test.YtnoklicihomfoaaB16
namespace Go.Proofs.Ytnoklicihomfoaa.Pure
open Go.RowKit Go.Proofs.Ytnoklicihomfoaa.P Go.Proofs.YtnoklicihomfoaaW.PrintWords Go.Proofs.Ytnoklicihomfoaa.Q
set_option linter.unusedVariables false
set_option linter.unusedSimpArgs false

theorem spec_l16Many_loop (t : List Int) : ∀ (p : List Int) (c : Nat), (p ++ t).length ≤ 1000000000 → c ≤ p.length → Ev (fun k => spec_l16Many.l0 k (c : Int) (p ++ t) ((p ++ t).length : Int) (p.length : Int)) ((c + rootsFrom p.length t : Nat) : Int) := by
  induction t with
  | nil =>
    intro p c _ _
    refine ev_succ.1 ?_
    simp only [spec_l16Many.l0, c_end, Int.lt_irrefl, if_false, ev_some, rootsFrom, Nat.add_zero]
  | cons x t ih =>
    intro p c hb hc
    have hpl : p.length ≤ 1000000000 := by simp at hb; omega
    refine ev_succ.1 ?_
    simp only [spec_l16Many.l0, c_lt, c_nn, c_rd, c_next p x t (by omega), if_true, ev_ite, w64 (n := (c : Int) + 1) (by omega) (by omega), rootsFrom]
    have h0 := ih (p ++ [x]) c (by rwa [← c_app]) (by simp; omega)
    have h1 := ih (p ++ [x]) (c + 1) (by rwa [← c_app]) (by simp; omega)
    rw [← c_app] at h0 h1
    by_cases h : x = (p.length : Int)
    · simp only [h, if_true]
      rw [h] at h1
      rw [show c + (1 + rootsFrom (p.length + 1) t) = c + 1 + rootsFrom (p.length + 1) t by omega]
      simpa using h1
    · simp only [h, if_false, Nat.zero_add]
      simpa using h0
theorem spec_l16Many_ev (n : Nat) (l : List S84) (hw : Within n (ends l)) (hb : l.length ≤ 1000000000) (hn : n ≤ 1000000000) : Ev (fun k => spec_l16Many.f k (n : Int) l) ((manyV n (ends l) : Nat) : Int) := by
  unfold spec_l16Many.f
  simp only [ev_bind (spec_l8Groups_ev n l hw hb hn)]
  have := spec_l16Many_loop (groupsV n (ends l)) [] 0 (by rw [List.nil_append, (groupsV_is hw).1.1]; exact hn) (by simp)
  simpa [manyV] using this

theorem impl_many_loop (t : List Int) : ∀ (p : List Int) (c : Nat), (p ++ t).length ≤ 1000000000 → c ≤ p.length → Ev (fun k => impl_many.l0 k (c : Int) (p ++ t) ((p ++ t).length : Int) (p.length : Int)) ((c + rootsFrom p.length t : Nat) : Int) := by
  induction t with
  | nil =>
    intro p c _ _
    refine ev_succ.1 ?_
    simp only [impl_many.l0, c_end, Int.lt_irrefl, if_false, ev_some, rootsFrom, Nat.add_zero]
  | cons x t ih =>
    intro p c hb hc
    have hpl : p.length ≤ 1000000000 := by simp at hb; omega
    refine ev_succ.1 ?_
    have hcm : ((p.length : Int) = x) = (x = (p.length : Int)) := propext ⟨Eq.symm, Eq.symm⟩
    simp only [impl_many.l0, hcm, c_lt, c_nn, c_rd, c_next p x t (by omega), if_true, ev_ite, w64 (n := (c : Int) + 1) (by omega) (by omega), rootsFrom]
    have h0 := ih (p ++ [x]) c (by rwa [← c_app]) (by simp; omega)
    have h1 := ih (p ++ [x]) (c + 1) (by rwa [← c_app]) (by simp; omega)
    rw [← c_app] at h0 h1
    by_cases h : x = (p.length : Int)
    · simp only [h, if_true]
      rw [h] at h1
      rw [show c + (1 + rootsFrom (p.length + 1) t) = c + 1 + rootsFrom (p.length + 1) t by omega]
      simpa using h1
    · simp only [h, if_false, Nat.zero_add]
      simpa using h0
theorem impl_many_ev (n : Nat) (l : List S84) (hw : Within n (ends l)) (hb : l.length ≤ 1000000000) (hn : n ≤ 1000000000) : Ev (fun k => impl_many.f k (n : Int) l) ((manyV n (ends l) : Nat) : Int) := by
  unfold impl_many.f
  simp only [ev_bind (impl_groupsOf_ev n l hw hb hn)]
  have := impl_many_loop (groupsV n (ends l)) [] 0 (by rw [List.nil_append, (groupsV_is hw).1.1]; exact hn) (by simp)
  simpa [manyV] using this

end Go.Proofs.Ytnoklicihomfoaa.Pure
