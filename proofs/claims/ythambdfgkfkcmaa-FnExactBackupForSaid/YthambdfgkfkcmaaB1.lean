/- What functions of the program answer, as plain functions: used by the laws of this claim. -/
import Derived.Test.YthambdfgkfkcmaaB0
import Derived.Test.YthambdfgkfkcmaaF1
import Derived.Test.YthambdfgkfkcmaaQFlow
namespace Go.Proofs.Ythambdfgkfkcmaa.Pure
open Go.RowKit Go.Proofs.Ythambdfgkfkcmaa.P Go.Proofs.YthambdfgkfkcmaaW.PrintWords Go.Proofs.Ythambdfgkfkcmaa.Q
set_option linter.unusedVariables false
set_option linter.unusedSimpArgs false

theorem laws_szEdgeS_eq (l : List S69) (h : l.length ≤ maxLen) : laws_szEdgeS.f l 1048576 = some (if (l.length : Int) > 1048576 then -1 else 1048576 - (l.length : Int)) := by
  unfold laws_szEdgeS.f
  unfold maxLen at h
  rw [w64 (by omega) (by omega)]
  split <;> split <;> first | rfl | omega


theorem laws_toEdgeS_loop (t : List S69) : ∀ (p : List S69), (p ++ t).length ≤ 9223372036854775806 → Ev (fun k => laws_toEdgeS.l0 k (p ++ t) (p.map toE ++ List.replicate t.length z47) (p.length : Int)) ((p ++ t).map toE) := by
  induction t with
  | nil =>
    intro p _
    refine ev_succ.1 ?_
    simp only [laws_toEdgeS.l0, c_end, Int.lt_irrefl, if_false, ev_some, List.length_nil, List.replicate_zero, List.append_nil]
  | cons x t ih =>
    intro p hb
    refine ev_succ.1 ?_
    have e : p.map toE ++ List.replicate (x :: t).length z47 = p.map toE ++ z47 :: List.replicate t.length z47 := rfl
    have e2 : (p.length : Int) = ((p.map toE).length : Int) := by simp
    have e3 : (p.length : Int) < ((p.map toE ++ z47 :: List.replicate t.length z47).length : Int) := by simp; omega
    have e4 : ∀ y, (p.map toE ++ z47 :: List.replicate t.length z47).set ((p.length : Int)).toNat y = (p.map toE ++ [y]) ++ List.replicate t.length z47 := by intro y; rw [e2]; exact c_set _ _ _ _
    simp only [laws_toEdgeS.l0, laws_toEdge.f, e, e3, e4, c_lt, c_nn, rdLE_at, c_next _ _ _ hb, if_true, Option.bind_some]
    have := ih (p ++ [x]) (by rwa [← c_app])
    rw [← c_app, List.map_append] at this
    exact this
theorem laws_toEdgeS_ev (l : List S69) (h : l.length ≤ 11728124029610) : Ev (fun k => laws_toEdgeS.f k l) (l.map toE) := by
  unfold laws_toEdgeS.f
  simp only [Int.toNat_natCast, h, c_nn, if_true]
  exact laws_toEdgeS_loop l [] (by simp; omega)

theorem laws_eqIntS_loop (t : List Int) : ∀ p : List Int, (p ++ t).length ≤ 9223372036854775806 → Ev (fun k => laws_eqIntS.l0 k (p ++ t) (p ++ t) (p.length : Int)) true := by
  induction t with
  | nil =>
    intro p _
    refine ev_succ.1 ?_
    simp only [laws_eqIntS.l0, c_end, Int.lt_irrefl, if_false, ev_some]
  | cons x t ih =>
    intro p hb
    refine ev_succ.1 ?_
    simp only [laws_eqIntS.l0, c_lt, c_nn, c_next _ _ _ hb, if_true]
    rw [c_app p x t]
    exact ih (p ++ [x]) (by rwa [← c_app])
theorem laws_eqIntS_ev (l : List Int) (h : l.length ≤ 9223372036854775806) : Ev (fun k => laws_eqIntS.f k l l) true := by
  unfold laws_eqIntS.f
  simp only [if_true]
  exact laws_eqIntS_loop l [] h


theorem laws_eqEdgeS_loop (t : List S47) : ∀ p : List S47, (p ++ t).length ≤ 9223372036854775806 → Ev (fun k => laws_eqEdgeS.l0 k (p ++ t) (p ++ t) (p.length : Int)) true := by
  induction t with
  | nil =>
    intro p _
    refine ev_succ.1 ?_
    simp only [laws_eqEdgeS.l0, c_end, Int.lt_irrefl, if_false, ev_some]
  | cons x t ih =>
    intro p hb
    refine ev_succ.1 ?_
    simp only [laws_eqEdgeS.l0, laws_eqEdge.f, Option.bind_some, c_lt, c_nn, c_next _ _ _ hb, if_true]
    rw [c_app p x t]
    exact ih (p ++ [x]) (by rwa [← c_app])
theorem laws_eqEdgeS_ev (l : List S47) (h : l.length ≤ 9223372036854775806) : Ev (fun k => laws_eqEdgeS.f k l l) true := by
  unfold laws_eqEdgeS.f
  simp only [if_true]
  exact laws_eqEdgeS_loop l [] h

theorem laws_markEdgeS_loop (t : List S47) : ∀ (q : List S47) (a : Int), (q ++ t).length ≤ 9223372036854775806 → 0 ≤ a → a + 3 * t.length ≤ 9223372036854775807 → Ev (fun k => laws_markEdgeS.l0 k (q ++ t) a (q.length : Int)) (a + 3 * t.length, q ++ marksE t.length a) := by
  induction t with
  | nil =>
    intro q a _ _ _
    refine ev_succ.1 ?_
    simp only [laws_markEdgeS.l0, c_end, Int.lt_irrefl, if_false, ev_some]
    simp [marksE]
  | cons x t ih =>
    intro q a hb h0 h1
    refine ev_succ.1 ?_
    simp only [List.length_cons] at h1
    simp only [laws_markEdgeS.l0, c_lt, c_nn, rdE_at, c_set, ← c_app, Option.bind_some, c_next _ _ _ hb, if_true]
    rw [w64 (n := a + 1) (by omega) (by omega), w64 (n := a + 1 + 1) (by omega) (by omega), w64 (n := a + 1 + 1 + 1) (by omega) (by omega), show ((q ++ [x]).length : Int) = ((q ++ [(⟨a, a + 1, a + 2⟩ : S47)]).length : Int) by simp]
    have := ih (q ++ [⟨a, a + 1, a + 2⟩]) (a + 3) (by simpa using hb) (by omega) (by omega)
    rw [show a + 3 * ((x :: t).length : Int) = a + 3 + 3 * (t.length : Int) by simp; omega, show q ++ marksE (x :: t).length a = (q ++ [⟨a, a + 1, a + 2⟩]) ++ marksE t.length (a + 3) by simp [marksE]]
    rw [show a + 1 + 1 = a + 2 by omega, show a + 2 + 1 = a + 3 by omega]
    rw [← c_app] at this
    exact this
theorem laws_markEdgeS_ev (l : List S47) (a : Int) (h : l.length ≤ 9223372036854775806) (h0 : 0 ≤ a) (h1 : a + 3 * l.length ≤ 9223372036854775807) : Ev (fun k => laws_markEdgeS.f k l a) (a + 3 * l.length, marksE l.length a) := laws_markEdgeS_loop l [] a h h0 h1

theorem laws_markIntS_loop (t : List Int) : ∀ (q : List Int) (a : Int), (q ++ t).length ≤ 9223372036854775806 → 0 ≤ a → a + t.length ≤ 9223372036854775807 → Ev (fun k => laws_markIntS.l0 k (q ++ t) a (q.length : Int)) (a + t.length, q ++ marks t.length a) := by
  induction t with
  | nil =>
    intro q a _ _ _
    refine ev_succ.1 ?_
    simp only [laws_markIntS.l0, c_end, Int.lt_irrefl, if_false, ev_some]
    simp [marks]
  | cons x t ih =>
    intro q a hb h0 h1
    refine ev_succ.1 ?_
    simp only [List.length_cons] at h1
    simp only [laws_markIntS.l0, c_lt, c_nn, c_set, c_next _ _ _ hb, if_true]
    rw [w64 (n := a + 1) (by omega) (by omega), show ((q ++ [x]).length : Int) = ((q ++ [a]).length : Int) by simp]
    have := ih (q ++ [a]) (a + 1) (by simpa using hb) (by omega) (by omega)
    rw [show a + ((x :: t).length : Int) = a + 1 + (t.length : Int) by simp; omega, show q ++ marks (x :: t).length a = (q ++ [a]) ++ marks t.length (a + 1) by simp [marks]]
    exact this
theorem laws_markIntS_ev (l : List Int) (a : Int) (h : l.length ≤ 9223372036854775806) (h0 : 0 ≤ a) (h1 : a + l.length ≤ 9223372036854775807) : Ev (fun k => laws_markIntS.f k l a) (a + l.length, marks l.length a) := laws_markIntS_loop l [] a h h0 h1

theorem laws_heldIntS_loop (n : Nat) : ∀ (p : List Int) (a : Int), p.length + n ≤ 9223372036854775806 → 0 ≤ a → a + n ≤ 9223372036854775807 → Ev (fun k => laws_heldIntS.l0 k (p ++ marks n a) a (p.length : Int)) (a + n) := by
  induction n with
  | zero =>
    intro p a _ _ _
    refine ev_succ.1 ?_
    simp only [laws_heldIntS.l0, marks, c_end, Int.lt_irrefl, if_false, ev_some]
    simp
  | succ n ih =>
    intro p a hb h0 h1
    refine ev_succ.1 ?_
    simp only [laws_heldIntS.l0, marks, c_lt, c_nn, c_rd, if_true]
    rw [w64 (n := a + 1) (by omega) (by omega), c_next p a (marks n (a + 1)) (by simp [marks_length]; omega), c_app p a (marks n (a + 1))]
    have := ih (p ++ [a]) (a + 1) (by simp; omega) (by omega) (by omega)
    rw [show a + ((n + 1 : Nat) : Int) = a + 1 + (n : Int) by omega]
    exact this
theorem laws_heldIntS_ev (n : Nat) (a : Int) (h : n ≤ 9223372036854775806) (h0 : 0 ≤ a) (h1 : a + n ≤ 9223372036854775807) : Ev (fun k => laws_heldIntS.f k (marks n a) a) (a + n) := by
  unfold laws_heldIntS.f
  exact laws_heldIntS_loop n [] a (by simpa using h) h0 h1

end Go.Proofs.Ythambdfgkfkcmaa.Pure
