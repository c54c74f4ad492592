/- What functions of the program answer, as plain functions: used by the laws of this claim. -/
import Derived.Test.YtenedmcobknefaaB0
import Derived.Test.YtenedmcobknefaaF11
import Derived.Test.YtenedmcobknefaaB1
import Derived.Test.YtenedmcobknefaaB3
import Derived.Test.YtenedmcobknefaaB8
namespace Go.Proofs.Ytenedmcobknefaa.Pure
open Go.RowKit Go.Proofs.Ytenedmcobknefaa.P Go.Proofs.YtenedmcobknefaaW.PrintWords Go.Proofs.Ytenedmcobknefaa.Q
set_option linter.unusedVariables false
set_option linter.unusedSimpArgs false

theorem spec_DropOld_loop (room a b : Int) (t : List S27) : ∀ p : List S27, (p ++ t).length ≤ 1000000 → Ev (fun k => spec_DropOld.l0 k a b (p ++ t) ((p ++ t).length : Int) (p.length : Int) room (p.filter fun y => decide (wrap64 (a - b) ≤ y.f2))) (room, (p ++ t).filter fun y => decide (wrap64 (a - b) ≤ y.f2), true) := by
  induction t with
  | nil =>
    intro p _
    refine ev_succ.1 ?_
    simp only [spec_DropOld.l0, c_end, List.append_nil, Int.lt_irrefl, if_false, ev_some]
  | cons y t ih =>
    intro p hb
    refine ev_succ.1 ?_
    have hi := ih (p ++ [y]) (by rwa [← c_app])
    rw [← c_app] at hi
    have hl := List.length_filter_le (fun s : S27 => decide (wrap64 (a - b) ≤ s.f2)) p
    have hpl : p.length ≤ 1000000 := by simp at hb; omega
    simp only [spec_DropOld.l0, c_lt, c_nn, rdSeen_at, c_next p y t (by omega), if_true, etaSeen, show ((p.filter fun s => decide (wrap64 (a - b) ≤ s.f2)).length < 5864062014805) = True from eq_true (by omega), ge_iff_le]
    by_cases h : wrap64 (a - b) ≤ y.f2
    · simp only [if_pos h]
      have e : (p ++ [y]).filter (fun s => decide (wrap64 (a - b) ≤ s.f2)) = p.filter (fun s => decide (wrap64 (a - b) ≤ s.f2)) ++ [y] := by simp [h]
      rwa [e] at hi
    · simp only [if_neg h]
      have e : (p ++ [y]).filter (fun s => decide (wrap64 (a - b) ≤ s.f2)) = p.filter (fun s => decide (wrap64 (a - b) ≤ s.f2)) := by
        rw [List.filter_append, List.filter_cons_of_neg (by simpa using h)]; simp
      rwa [e] at hi
theorem spec_DropOld_ev (room : Int) (l : List S27) (a b : Int) (h : l.length ≤ 1000000) : Ev (fun k => spec_DropOld.f k room l a b) (dropV room l a b) := by
  have hl := spec_DropOld_loop room a b l [] (by simpa using h)
  simp only [List.nil_append, List.length_nil, List.filter_nil] at hl
  have hj : ∀ c : Bool, Ev (fun k => spec_DropOld.j0 k a b (!c) room l) (if c = true then (room, l.filter (fun y => decide (wrap64 (a - b) ≤ y.f2)), true) else (0, [], false)) := by
    intro c
    refine ev_succ.1 ?_
    cases c
    · simp only [spec_DropOld.j0, Bool.not_false, if_true, Bool.false_eq_true, if_false]; exact Ev.now _
    · simp only [spec_DropOld.j0, Bool.not_true, Bool.false_eq_true, if_false, if_true]; exact hl
  have hf := hj false
  simp only [Bool.not_false, Bool.false_eq_true, if_false] at hf
  unfold spec_DropOld.f dropV
  simp only [ev_bind (spec_GoodTable_ev room l h), ev_ite, spec_l1In_eq, Option.bind_some]
  by_cases h1 : goodT room l = true
  · simp only [if_pos h1]
    by_cases h2 : inB 0 10000 a = true
    · simp only [if_pos h2]
      exact hj _
    · simp only [if_neg h2]; exact hf
  · simp only [if_neg h1]; exact hf

theorem spec_DrawFlushPort_ok (l : List Int) (hl : bytesL l) : ∃ r R a, Ev (fun k => spec_DrawFlushPort.f k l) (r, R, a) ∧ R.length ≤ 64 := by
  obtain ⟨r, R, a1, s1, e1, h, p0, p1⟩ := spec_l1Cur_learned_ok l hl 0 0 (by omega) (by omega)
  obtain ⟨v, a2, s2, e2, _, _, q0, q1⟩ := spec_l1Cur_pick_ok l a1 s1 12 hl p0 (by omega) (by omega)
  refine ⟨r, R, wrap64 (v - 1), ?_, h⟩
  unfold spec_DrawFlushPort.f
  rw [slices_xorshift_Next_eq]
  refine ev_some_bind.2 ?_
  refine (ev_bind e1).2 ?_
  simp only [e2, Option.bind_some]
  exact Ev.now _

theorem spec_FlushPort_loop (room a : Int) (t : List S27) : ∀ p : List S27, (p ++ t).length ≤ 1000000 → Ev (fun k => spec_FlushPort.l0 k a (p ++ t) ((p ++ t).length : Int) (p.length : Int) room (p.filter fun y => y.f1 != a)) (room, (p ++ t).filter fun y => y.f1 != a, true) := by
  induction t with
  | nil =>
    intro p _
    refine ev_succ.1 ?_
    simp only [spec_FlushPort.l0, c_end, List.append_nil, Int.lt_irrefl, if_false, ev_some]
  | cons y t ih =>
    intro p hb
    refine ev_succ.1 ?_
    have hi := ih (p ++ [y]) (by rwa [← c_app])
    rw [← c_app] at hi
    have hl := List.length_filter_le (fun s : S27 => s.f1 != a) p
    have hpl : p.length ≤ 1000000 := by simp at hb; omega
    simp only [spec_FlushPort.l0, c_lt, c_nn, rdSeen_at, c_next p y t (by omega), if_true, etaSeen, show ((p.filter fun s => s.f1 != a).length < 5864062014805) = True from eq_true (by omega)]
    by_cases h : y.f1 = a
    · simp only [if_pos h]
      have e : (p ++ [y]).filter (fun s => s.f1 != a) = p.filter (fun s => s.f1 != a) := by simp [h]
      rwa [e] at hi
    · simp only [if_neg h]
      have e : (p ++ [y]).filter (fun s => s.f1 != a) = p.filter (fun s => s.f1 != a) ++ [y] := by simp [h]
      rwa [e] at hi
theorem spec_FlushPort_ev (room : Int) (l : List S27) (a : Int) (h : l.length ≤ 1000000) : Ev (fun k => spec_FlushPort.f k room l a) (flushV room l a) := by
  have hl := spec_FlushPort_loop room a l [] (by simpa using h)
  simp only [List.nil_append, List.length_nil, List.filter_nil] at hl
  have hj : ∀ c : Bool, Ev (fun k => spec_FlushPort.j0 k a (!c) room l) (if c = true then (room, l.filter (fun y => y.f1 != a), true) else (0, [], false)) := by
    intro c
    refine ev_succ.1 ?_
    cases c
    · simp only [spec_FlushPort.j0, Bool.not_false, if_true, Bool.false_eq_true, if_false]; exact Ev.now _
    · simp only [spec_FlushPort.j0, Bool.not_true, Bool.false_eq_true, if_false, if_true]; exact hl
  have hf := hj false
  simp only [Bool.not_false, Bool.false_eq_true, if_false] at hf
  unfold spec_FlushPort.f flushV
  simp only [ev_bind (spec_GoodTable_ev room l h), ev_ite, spec_l1In_eq, Option.bind_some]
  by_cases h1 : goodT room l = true
  · simp only [if_pos h1]
    exact hj _
  · simp only [if_neg h1]; exact hf

end Go.Proofs.Ytenedmcobknefaa.Pure
