/- The plain statement behind the law FnExactWaysApart: for all arguments it answers true. -/
import Derived.Test.YthambdfgkfkcmaaB0
import Derived.Test.YthambdfgkfkcmaaF11
import Derived.Test.YthambdfgkfkcmaaB1
import Derived.Test.YthambdfgkfkcmaaB3
import Derived.Test.YthambdfgkfkcmaaB5
import Derived.Test.YthambdfgkfkcmaaB6
import Derived.Test.YthambdfgkfkcmaaB10
import Derived.Test.YthambdfgkfkcmaaQFlow
import Derived.Test.YthambdfgkfkcmaaQWays
namespace Go.Proofs.Ythambdfgkfkcmaa.Pure
open Go.RowKit Go.Proofs.Ythambdfgkfkcmaa.P Go.Proofs.YthambdfgkfkcmaaW.PrintWords Go.Proofs.Ythambdfgkfkcmaa.Q
set_option linter.unusedVariables false
set_option linter.unusedSimpArgs false

theorem laws_eqIntSS_loop (t : List (List Int)) : ∀ p : List (List Int), (p ++ t).length ≤ 9223372036854775806 → (∀ y ∈ t, y.length ≤ 9223372036854775806) → Ev (fun k => laws_eqIntSS.l0 k (p ++ t) (p ++ t) (p.length : Int)) true := by
  induction t with
  | nil =>
    intro p _ _
    refine ev_succ.1 ?_
    simp only [laws_eqIntSS.l0, c_end, Int.lt_irrefl, if_false, ev_some]
  | cons x t ih =>
    intro p hb hs
    have hr : rd_L3 (p ++ x :: t) (p.length : Int) = x := by simp [rd_L3]
    refine ev_succ.1 ?_
    simp only [laws_eqIntSS.l0, c_lt, c_nn, c_next _ _ _ hb, hr, ev_bind (laws_eqIntS_ev x (hs x (by simp))), if_true]
    rw [c_app p x t]
    exact ih (p ++ [x]) (by rwa [← c_app]) (fun y hy => hs y (by simp [hy]))
theorem laws_eqIntSS_ev (l : List (List Int)) (h : l.length ≤ 9223372036854775806) (hs : ∀ y ∈ l, y.length ≤ 9223372036854775806) : Ev (fun k => laws_eqIntSS.f k l l) true := by
  unfold laws_eqIntSS.f
  simp only [if_true]
  exact laws_eqIntSS_loop l [] h hs

theorem laws_markIntSS_loop (t : List (List Int)) : ∀ (q : List (List Int)) (a : Int), (q ++ t).length ≤ 1000000 → sizeSS t ≤ 1000000 → 0 ≤ a → a ≤ 1000000000000 - (sizeSS t : Int) → Ev (fun k => laws_markIntSS.l0 k (q ++ t) a (q.length : Int)) (a + sizeSS t, q ++ marksSS t a) := by
  induction t with
  | nil =>
    intro q a _ _ _ _
    refine ev_succ.1 ?_
    simp only [laws_markIntSS.l0, c_end, Int.lt_irrefl, if_false, ev_some]
    simp [sizeSS, marksSS]
  | cons x t ih =>
    intro q a hb hz h0 h1
    have hr : (q ++ x :: t).getD ((q.length : Int)).toNat ([] : List Int) = x := by simp
    have hx : x.length ≤ 1000000 := by simp only [sizeSS] at hz; omega
    have hz2 : sizeSS t ≤ 1000000 := by simp only [sizeSS] at hz; omega
    have hm := laws_markIntS_ev x a (by omega) h0 (by simp only [sizeSS] at h1; omega)
    refine ev_succ.1 ?_
    simp only [laws_markIntSS.l0, c_lt, c_nn, hr, if_true, ev_bind hm, c_set, c_next q x t (by omega)]
    have hi := ih (q ++ [marks x.length a]) (a + x.length) (by simp at hb ⊢; omega) hz2 (by omega) (by simp only [sizeSS] at h1; omega)
    simp only [List.length_append, List.length_cons, List.length_nil] at hi ⊢
    simp only [sizeSS, marksSS]
    rw [show a + ((x.length + sizeSS t : Nat) : Int) = a + (x.length : Int) + (sizeSS t : Int) by omega, show q ++ marks x.length a :: marksSS t (a + x.length) = (q ++ [marks x.length a]) ++ marksSS t (a + x.length) from by simp]
    exact hi
theorem laws_markIntSS_ev (l : List (List Int)) (a : Int) (h : l.length ≤ 1000000) (hz : sizeSS l ≤ 1000000) (h0 : 0 ≤ a) (h1 : a ≤ 1000) : Ev (fun k => laws_markIntSS.f k l a) (a + sizeSS l, marksSS l a) := laws_markIntSS_loop l [] a h hz h0 (by omega)

theorem laws_heldIntSS_loop (t : List (List Int)) : ∀ (q : List (List Int)) (a : Int), q.length + t.length ≤ 1000000 → sizeSS t ≤ 1000000 → 0 ≤ a → a ≤ 1000000000000 - (sizeSS t : Int) → Ev (fun k => laws_heldIntSS.l0 k (q ++ marksSS t a) a (q.length : Int)) (a + sizeSS t) := by
  induction t with
  | nil =>
    intro q a _ _ _ _
    refine ev_succ.1 ?_
    simp only [laws_heldIntSS.l0, marksSS, c_end, Int.lt_irrefl, if_false, ev_some]
    simp [sizeSS]
  | cons x t ih =>
    intro q a hb hz h0 h1
    have hx : x.length ≤ 1000000 := by simp only [sizeSS] at hz; omega
    have hz2 : sizeSS t ≤ 1000000 := by simp only [sizeSS] at hz; omega
    have hr : rd_L3 (q ++ marks x.length a :: marksSS t (a + x.length)) (q.length : Int) = marks x.length a := by simp [rd_L3]
    have hlen : (q ++ marks x.length a :: marksSS t (a + x.length)).length ≤ 9223372036854775806 := by simp only [List.length_append, List.length_cons, marksSS_length] at hb ⊢; omega
    have hm := laws_heldIntS_ev x.length a (by omega) h0 (by simp only [sizeSS] at h1; omega)
    have hi := ih (q ++ [marks x.length a]) (a + x.length) (by simp at hb ⊢; omega) hz2 (by omega) (by simp only [sizeSS] at h1; omega)
    refine ev_succ.1 ?_
    simp only [laws_heldIntSS.l0, marksSS, c_lt, c_nn, hr, if_true, ev_bind hm, show (a + (x.length : Int) < 0) = False from eq_false (by omega), if_false, c_next _ _ _ hlen]
    rw [c_app q (marks x.length a)]
    simp only [sizeSS]
    rw [show a + ((x.length + sizeSS t : Nat) : Int) = a + (x.length : Int) + (sizeSS t : Int) by omega]
    exact hi
theorem laws_heldIntSS_ev (l : List (List Int)) (a : Int) (h : l.length ≤ 1000000) (hz : sizeSS l ≤ 1000000) (h0 : 0 ≤ a) (h1 : a ≤ 1000) : Ev (fun k => laws_heldIntSS.f k (marksSS l a) a) (a + sizeSS l) := laws_heldIntSS_loop l [] a (by simpa using h) hz h0 (by omega)

theorem FnExactWaysApart (n : Int)  (l0 : List S69) (a : Int) (b : Int)  (_ : (Lit.int .i64 n).wf = true) (hG_l : l0.length ≤ maxLen ∧ ∀ y ∈ l0, G69 y) (_ : (Lit.int .i64 a).wf = true) (_ : (Lit.int .i64 b).wf = true) : ∃ k, laws_FnExactWaysApart.f k n l0 a b = some true := by
  refine Ev.rounds ?_
  unfold laws_FnExactWaysApart.f
  simp only [laws_szEdgeS_eq l0 hG_l.1, Option.bind_some]
  by_cases hbig_l : (l0.length : Int) > 1048576
  · simp only [hbig_l, if_true]; exact Ev.now _
  simp only [hbig_l, if_false, show ((1048576 : Int) - (l0.length : Int) < 0) = False from eq_false (by omega)]
  have hs_l : (l0.map toE).length ≤ 1048576 := by simp; omega
  have hto_l := laws_toEdgeS_ev l0 (by omega)
  generalize l0.map toE = l at hs_l hto_l
  have hi := impl_WaysApart_ev n l a b (by omega)
  have hw := spec_WaysApart_ev n l a b (by omega)
  have hte : ends l = (l.map trip).map (fun e => (e.1, e.2.1)) := by rw [List.map_map]; rfl
  have hb0 := waysV_size n (l.map trip) (ends l) hte a b
  generalize waysV n (l.map trip) (ends l) a b = v at hi hw hb0
  obtain ⟨r0, r1⟩ := v
  simp only at hb0
  obtain ⟨hb1, hb2⟩ := hb0
  have hs0 : ∀ y ∈ r0, y.length ≤ 9223372036854775806 := by
    have : ∀ (t : List (List Int)), ∀ y ∈ t, y.length ≤ sizeSS t := by
      intro t
      induction t with
      | nil => intro y hy; simp at hy
      | cons x t ih =>
        intro y hy
        simp only [sizeSS]
        rcases List.mem_cons.1 hy with rfl | hy
        · omega
        · have := ih y hy; omega
    intro y hy
    have := this r0 y hy
    omega
  simp only [Bool.false_eq_true, if_false, if_true, bne_self_eq_false, Option.bind_some, ev_bind hto_l, ev_bind hw, ev_bind hi, ev_bind (laws_eqIntSS_ev r0 (by omega) hs0), ev_bind (laws_eqEdgeS_ev l (by omega)), ev_bind (laws_markEdgeS_ev l (1) (by omega) (by omega) (by omega)), show (1 + 3 * (l.length : Int) < 0) = False from eq_false (by omega), ev_bind (laws_markIntSS_ev r0 (1) (by omega) (by omega) (by omega) (by omega)), ev_bind (laws_heldIntSS_ev r0 (1) (by omega) (by omega) (by omega) (by omega)), show (1 + (sizeSS r0 : Int) < 0) = False from eq_false (by omega)]
  refine ev_succ.1 ?_
  simp only [laws_FnExactWaysApart.j0, Bool.false_eq_true, if_false, if_true, bne_self_eq_false, Option.bind_some, ev_bind hto_l, ev_bind hw, ev_bind hi, ev_bind (laws_eqIntSS_ev r0 (by omega) hs0), ev_bind (laws_eqEdgeS_ev l (by omega)), ev_bind (laws_markEdgeS_ev l (1) (by omega) (by omega) (by omega)), show (1 + 3 * (l.length : Int) < 0) = False from eq_false (by omega), ev_bind (laws_markIntSS_ev r0 (1) (by omega) (by omega) (by omega) (by omega)), ev_bind (laws_heldIntSS_ev r0 (1) (by omega) (by omega) (by omega) (by omega)), show (1 + (sizeSS r0 : Int) < 0) = False from eq_false (by omega)]
  refine ev_succ.1 ?_
  simp only [laws_FnExactWaysApart.j1, Bool.false_eq_true, if_false, if_true, bne_self_eq_false, Option.bind_some, ev_bind hto_l, ev_bind hw, ev_bind hi, ev_bind (laws_eqIntSS_ev r0 (by omega) hs0), ev_bind (laws_eqEdgeS_ev l (by omega)), ev_bind (laws_markEdgeS_ev l (1) (by omega) (by omega) (by omega)), show (1 + 3 * (l.length : Int) < 0) = False from eq_false (by omega), ev_bind (laws_markIntSS_ev r0 (1) (by omega) (by omega) (by omega) (by omega)), ev_bind (laws_heldIntSS_ev r0 (1) (by omega) (by omega) (by omega) (by omega)), show (1 + (sizeSS r0 : Int) < 0) = False from eq_false (by omega)]
  refine ev_succ.1 ?_
  simp only [laws_FnExactWaysApart.j2, Bool.false_eq_true, if_false, if_true, bne_self_eq_false, Option.bind_some, ev_bind hto_l, ev_bind hw, ev_bind hi, ev_bind (laws_eqIntSS_ev r0 (by omega) hs0), ev_bind (laws_eqEdgeS_ev l (by omega)), ev_bind (laws_markEdgeS_ev l (1) (by omega) (by omega) (by omega)), show (1 + 3 * (l.length : Int) < 0) = False from eq_false (by omega), ev_bind (laws_markIntSS_ev r0 (1) (by omega) (by omega) (by omega) (by omega)), ev_bind (laws_heldIntSS_ev r0 (1) (by omega) (by omega) (by omega) (by omega)), show (1 + (sizeSS r0 : Int) < 0) = False from eq_false (by omega)]
  exact Ev.now _

end Go.Proofs.Ythambdfgkfkcmaa.Pure
