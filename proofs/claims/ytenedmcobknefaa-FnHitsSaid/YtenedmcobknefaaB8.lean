/- What functions of the program answer, as plain functions: used by the laws of this claim. -/
import Derived.Test.YtenedmcobknefaaB0
import Derived.Test.YtenedmcobknefaaF8
import Derived.Test.YtenedmcobknefaaB1
namespace Go.Proofs.Ytenedmcobknefaa.Pure
open Go.RowKit Go.Proofs.Ytenedmcobknefaa.P Go.Proofs.YtenedmcobknefaaW.PrintWords Go.Proofs.Ytenedmcobknefaa.Q
set_option linter.unusedVariables false
set_option linter.unusedSimpArgs false

theorem spec_GoodTable_in (room : Int) (l : List S27) (i : Int) (a b c : Int) (P : List S27) (v : Bool) (t : List S27) : ∀ q : List S27, q ++ t = P → P.length ≤ 1000000 → (newB t a = true → Ev (fun k => spec_GoodTable.l0 k l (l.length : Int) (wrap64 (i + 1)) room l) v) → (newB t a = false → v = false) → Ev (fun k => spec_GoodTable.l1 k l (l.length : Int) i P (P.length : Int) (q.length : Int) room l a b c) v := by
  induction t with
  | nil =>
    intro q e hb h1 h2
    refine ev_succ.1 ?_
    have e1 : ((q.length : Int) < (P.length : Int)) = False := by rw [← e]; exact c_end q
    simp only [spec_GoodTable.l1, e1, if_false]
    exact h1 rfl
  | cons y t ih =>
    intro q e hb h1 h2
    refine ev_succ.1 ?_
    have e1 : ((q.length : Int) < (P.length : Int)) = True := by rw [← e]; exact c_lt _ _ _
    have e2 : rd_T27 P (q.length : Int) = y := by rw [← e]; exact rdSeen_at _ _ _
    have hb2 : (q ++ y :: t).length ≤ 1000000 := by rw [e]; exact hb
    simp only [spec_GoodTable.l1, e1, e2, c_nn, if_true, c_next q y t (by omega)]
    by_cases h : y.f0 = a
    · simp only [if_pos h]
      rw [h2 (by simp [newB, h])]; exact Ev.now _
    · simp only [if_neg h]
      have en : newB (y :: t) a = newB t a := by simp [newB, h]
      rw [en] at h1 h2
      exact ih (q ++ [y]) (by rw [← e]; simp) hb h1 h2
theorem spec_GoodTable_loop (room : Int) (t : List S27) : ∀ p : List S27, (p ++ t).length ≤ 1000000 → Ev (fun k => spec_GoodTable.l0 k (p ++ t) ((p ++ t).length : Int) (p.length : Int) room (p ++ t)) ((inB 1 8 room && decide (((p ++ t).length : Int) ≤ room)) && rowsB p t) := by
  induction t with
  | nil =>
    intro p _
    refine ev_succ.1 ?_
    simp only [spec_GoodTable.l0, c_end, List.append_nil, Int.lt_irrefl, if_false, rowsB, spec_l1In_eq, Option.bind_some]
    cases inB 1 8 room <;> simp [ev_some]
  | cons y t ih =>
    intro p hb
    have hq : ((p ++ [y]) ++ t).length ≤ 1000000 := by rwa [← c_app]
    have hi := ih (p ++ [y]) hq
    rw [← c_app] at hi
    have hpl : p.length ≤ 1000000 := by simp at hb; omega
    have htk : (p ++ y :: t).take ((p.length : Int)).toNat = p := by simp
    have hj : ∀ b : Bool, b = (seen3 y.f0 y.f1 y.f2 && lastB p y) → Ev (fun k => spec_GoodTable.j1 k (p.length : Int) (p ++ y :: t) ((p ++ y :: t).length : Int) (p.length : Int) (!b) room (p ++ y :: t) y.f0 y.f1 y.f2) ((inB 1 8 room && decide (((p ++ y :: t).length : Int) ≤ room)) && rowsB p (y :: t)) := by
      intro b hb2
      refine ev_succ.1 ?_
      cases b
      · have : rowsB p (y :: t) = false := by
          simp only [rowsB, ← Bool.and_assoc, ← hb2, Bool.false_and]
        simp only [spec_GoodTable.j1, Bool.not_false, if_true, this, Bool.and_false, ev_some]
      · have hr : rowsB p (y :: t) = (newB p y.f0 && rowsB (p ++ [y]) t) := by
          have := hb2.symm
          simp only [Bool.and_eq_true] at this
          simp only [rowsB, this.1, this.2, Bool.true_and]
        simp only [spec_GoodTable.j1, Bool.not_true, Bool.false_eq_true, if_false, c_nn, if_true, htk, Option.bind_some, show ((p.length : Int) ≤ ((p ++ y :: t).length : Int)) = True from eq_true (by simp; omega)]
        refine spec_GoodTable_in room (p ++ y :: t) (p.length : Int) y.f0 y.f1 y.f2 p _ p [] rfl (by omega) (fun h => ?_) (fun h => ?_)
        · rw [c_next p y t (by omega), hr, h, Bool.true_and]
          exact hi
        · rw [hr, h, Bool.false_and, Bool.and_false]
    refine ev_succ.1 ?_
    simp only [spec_GoodTable.l0, c_lt, c_nn, rdSeen_at, if_true, spec_l13Row_eq, Option.bind_some, ev_ite]
    by_cases h : seen3 y.f0 y.f1 y.f2 = true
    · simp only [if_pos h]
      rcases List.eq_nil_or_concat p with rfl | ⟨q, z, rfl⟩
      · simp only [List.length_nil, show (((0 : Nat) : Int) > 0) = False from eq_false (by omega), if_false]
        have := hj true (by simp [h, lastB])
        simpa using this
      · simp only [List.concat_eq_append] at *
        have hw : wrap64 (((q ++ [z]).length : Int) - 1) = (q.length : Int) := by rw [w64 (by omega) (by omega)]; simp
        simp only [hw, rdSeen_last, show (((q ++ [z]).length : Int) > 0) = True from eq_true (by simp only [List.length_append, List.length_cons, List.length_nil]; omega), show ((q.length : Int) < (((q ++ [z]) ++ y :: t).length : Int)) = True from eq_true (by simp only [List.length_append, List.length_cons, List.length_nil]; omega), if_true, c_nn]
        have e : decide (z.f2 < y.f2) = !(lastB (q ++ [z]) y) := by
          simp only [lastB, List.getLast?_append, List.getLast?_singleton, Option.some_or]
          by_cases h3 : z.f2 < y.f2
          · rw [decide_eq_true h3, decide_eq_false (by omega)]; rfl
          · rw [decide_eq_false h3, decide_eq_true (by omega)]; rfl
        rw [e]
        exact hj _ (by simp [h])
    · have h' : seen3 y.f0 y.f1 y.f2 = false := by simpa using h
      simp only [if_neg h]
      have := hj false (by simp [h'])
      simpa using this
theorem spec_GoodTable_ev (room : Int) (l : List S27) (h : l.length ≤ 1000000) : Ev (fun k => spec_GoodTable.f k room l) (goodT room l) := by
  unfold spec_GoodTable.f
  exact spec_GoodTable_loop room l [] (by simpa using h)

end Go.Proofs.Ytenedmcobknefaa.Pure
