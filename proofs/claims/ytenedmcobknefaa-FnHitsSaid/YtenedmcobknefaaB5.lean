/- What functions of the program answer, as plain functions: used by the laws of this claim. -/
import Derived.Test.YtenedmcobknefaaB0
import Derived.Test.YtenedmcobknefaaF5
import Derived.Test.YtenedmcobknefaaB4
namespace Go.Proofs.Ytenedmcobknefaa.Pure
open Go.RowKit Go.Proofs.Ytenedmcobknefaa.P Go.Proofs.YtenedmcobknefaaW.PrintWords Go.Proofs.Ytenedmcobknefaa.Q
set_option linter.unusedVariables false
set_option linter.unusedSimpArgs false

theorem impl_GoodTable_loop (room : Int) (t : List S27) : ∀ p : List S27, (p ++ t).length ≤ 1000000 → Ev (fun k => impl_GoodTable.l0 k (p ++ t) ((p ++ t).length : Int) (p.length : Int) room (p ++ t)) (rowsB p t) := by
  induction t with
  | nil =>
    intro p _
    refine ev_succ.1 ?_
    simp only [impl_GoodTable.l0, c_end, List.append_nil, Int.lt_irrefl, if_false, rowsB, ev_some]
  | cons y t ih =>
    intro p hb
    refine ev_succ.1 ?_
    have hq : ((p ++ [y]) ++ t).length ≤ 1000000 := by rwa [← c_app]
    have hi := ih (p ++ [y]) hq
    rw [← c_app] at hi
    have hn := findV_new y t p 0
    rw [Nat.zero_add] at hn
    have hpl : p.length ≤ 1000000 := by simp at hb; omega
    simp only [impl_GoodTable.l0, c_lt, c_nn, rdSeen_at, c_next p y t (by omega), if_true, impl_isSeen_eq, Option.bind_some, ev_ite, rowsB]
    by_cases h : seen3 y.f0 y.f1 y.f2 = true
    · simp only [h, if_true, Bool.true_and, ev_bind (impl_row_ev (p ++ y :: t) y.f0 hb), ev_ite]
      by_cases h2 : newB p y.f0 = true
      · rw [h2] at hn
        have hn2 : ¬ findV (fun s => s.f0 == y.f0) 0 (p ++ y :: t) < (p.length : Int) := by simpa using hn
        simp only [if_neg hn2, h2, Bool.true_and]
        rcases List.eq_nil_or_concat p with rfl | ⟨q, z, rfl⟩
        · simp only [List.length_nil, show (((0 : Nat) : Int) > 0) = False from eq_false (by omega), if_false]
          simpa [lastB] using hi
        · simp only [List.concat_eq_append] at *
          have hw : wrap64 (((q ++ [z]).length : Int) - 1) = (q.length : Int) := by rw [w64 (by omega) (by omega)]; simp
          have e : (q ++ [z]) ++ y :: t = (q ++ [z]) ++ (y :: t) := rfl
          simp only [hw, rdSeen_last, show (((q ++ [z]).length : Int) > 0) = True from eq_true (by simp only [List.length_append, List.length_cons, List.length_nil]; omega), show ((q.length : Int) < (((q ++ [z]) ++ y :: t).length : Int)) = True from eq_true (by simp only [List.length_append, List.length_cons, List.length_nil]; omega), if_true, c_nn]
          by_cases h3 : z.f2 < y.f2
          · simp only [if_pos h3]
            have : lastB (q ++ [z]) y = false := by simp [lastB, h3]
            rw [this]; exact Ev.now _
          · simp only [if_neg h3]
            have : lastB (q ++ [z]) y = true := by simp [lastB, Int.not_lt.1 h3]
            rw [this]; exact hi
      · have h2' : newB p y.f0 = false := by simpa using h2
        rw [h2'] at hn
        have hn2 : findV (fun s => s.f0 == y.f0) 0 (p ++ y :: t) < (p.length : Int) := by simpa using hn
        simp only [if_pos hn2, h2', Bool.false_and, Bool.and_false, ev_some]
    · have h' : seen3 y.f0 y.f1 y.f2 = false := by simpa using h
      simp only [h', Bool.false_eq_true, if_false, Bool.false_and, ev_some]
theorem impl_GoodTable_ev (room : Int) (l : List S27) (h : l.length ≤ 1000000) : Ev (fun k => impl_GoodTable.f k room l) (goodT room l) := by
  have hl := impl_GoodTable_loop room l [] (by simpa using h)
  simp only [List.nil_append, List.length_nil] at hl
  unfold impl_GoodTable.f goodT
  simp only [impl_in_eq, Option.bind_some, ev_ite]
  by_cases h1 : inB 1 8 room = true
  · simp only [h1, if_true, Bool.true_and]
    refine ev_succ.1 ?_
    by_cases h2 : (l.length : Int) > room
    · simp only [impl_GoodTable.j0, decide_eq_true_eq, if_pos h2, show decide ((l.length : Int) ≤ room) = false from decide_eq_false (by omega), Bool.false_and]
      exact Ev.now _
    · simp only [impl_GoodTable.j0, decide_eq_true_eq, if_neg h2, show decide ((l.length : Int) ≤ room) = true from decide_eq_true (by omega), Bool.true_and]
      exact hl
  · have h1' : inB 1 8 room = false := by simpa using h1
    simp only [h1', Bool.false_eq_true, if_false, Bool.false_and]
    refine ev_succ.1 ?_
    simp only [impl_GoodTable.j0, if_true]
    exact Ev.now _

theorem impl_Table_kept_loop (room : Int) (g : Int → Int → Int → Bool) (t : List S27) : ∀ p : List S27, (p ++ t).length ≤ 1000000 → Ev (fun k => impl_Table_kept.l0 (fun x y z => some (g x y z)) k (p ++ t) ((p ++ t).length : Int) (p.length : Int) room (p.filter fun s => g s.f0 s.f1 s.f2)) (room, (p ++ t).filter fun s => g s.f0 s.f1 s.f2) := by
  induction t with
  | nil =>
    intro p _
    refine ev_succ.1 ?_
    simp only [impl_Table_kept.l0, c_end, List.append_nil, Int.lt_irrefl, if_false, ev_some]
  | cons y t ih =>
    intro p hb
    refine ev_succ.1 ?_
    have hq : ((p ++ [y]) ++ t).length ≤ 1000000 := by rwa [← c_app]
    have hi := ih (p ++ [y]) hq
    rw [← c_app] at hi
    have hl := List.length_filter_le (fun s : S27 => g s.f0 s.f1 s.f2) p
    have hpl : p.length ≤ 1000000 := by simp at hb; omega
    simp only [impl_Table_kept.l0, c_lt, c_nn, rdSeen_at, c_next p y t (by omega), if_true, Option.bind_some, etaSeen, show ((p.filter fun s => g s.f0 s.f1 s.f2).length < 5864062014805) = True from eq_true (by omega)]
    by_cases h : g y.f0 y.f1 y.f2 = true
    · simp only [h, if_true]
      have e : (p ++ [y]).filter (fun s => g s.f0 s.f1 s.f2) = p.filter (fun s => g s.f0 s.f1 s.f2) ++ [y] := by simp [h]
      rwa [e] at hi
    · simp only [if_neg h]
      have e : (p ++ [y]).filter (fun s => g s.f0 s.f1 s.f2) = p.filter (fun s => g s.f0 s.f1 s.f2) := by simp [h]
      rwa [e] at hi
theorem impl_Table_kept_ev (room : Int) (l : List S27) (g : Int → Int → Int → Bool) (h : l.length ≤ 1000000) : Ev (fun k => impl_Table_kept.f k room l (fun x y z => some (g x y z))) (room, l.filter fun s => g s.f0 s.f1 s.f2) := by
  unfold impl_Table_kept.f
  exact impl_Table_kept_loop room g l [] (by simpa using h)

end Go.Proofs.Ytenedmcobknefaa.Pure
