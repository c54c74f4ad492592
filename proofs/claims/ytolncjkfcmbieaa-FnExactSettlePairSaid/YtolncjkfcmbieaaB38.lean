/- What functions of the program answer, as plain functions: used by the laws of this claim. -/
import Derived.Test.YtolncjkfcmbieaaB0
import Derived.Test.YtolncjkfcmbieaaF38
import Derived.Test.YtolncjkfcmbieaaB9
import Derived.Test.YtolncjkfcmbieaaB33
namespace Go.Proofs.Ytolncjkfcmbieaa.Pure
open Go.RowKit Go.Proofs.Ytolncjkfcmbieaa.P Go.Proofs.YtolncjkfcmbieaaW.PrintWords Go.Proofs.Ytolncjkfcmbieaa.Q
set_option linter.unusedVariables false
set_option linter.unusedSimpArgs false

theorem laws_eqHello_eq (a : Int) (b : Bool) : laws_eqHello.f a b a b = some true := by simp [laws_eqHello.f]

theorem laws_eqHelloS_loop (t : List S127) : ∀ p : List S127, (p ++ t).length ≤ 9223372036854775806 → Ev (fun k => laws_eqHelloS.l0 k (p ++ t) (p ++ t) (p.length : Int)) true := by
  induction t with
  | nil =>
    intro p _
    refine ev_succ.1 ?_
    simp only [laws_eqHelloS.l0, c_end, Int.lt_irrefl, if_false, ev_some]
  | cons x t ih =>
    intro p hb
    refine ev_succ.1 ?_
    simp only [laws_eqHelloS.l0, laws_eqHello_eq, Option.bind_some, c_lt, c_nn, c_next _ _ _ hb, if_true]
    rw [c_app p x t]
    exact ih (p ++ [x]) (by rwa [← c_app])
theorem laws_eqHelloS_ev (l : List S127) (h : l.length ≤ 9223372036854775806) : Ev (fun k => laws_eqHelloS.f k l l) true := by
  unfold laws_eqHelloS.f
  simp only [if_true]
  exact laws_eqHelloS_loop l [] h

theorem laws_eqPair_ev (l0 l1 : List Int) (l2 : List S127) (h0 : l0.length ≤ 2097152) (h1 : l1.length ≤ 2097152) (h2 : l2.length ≤ 2097152) : Ev (fun k => laws_eqPair.f k l0 l1 l2 l0 l1 l2) true := by
  unfold laws_eqPair.f
  simp only [ev_bind (laws_eqIntS_ev l0 (by omega)), ev_bind (laws_eqIntS_ev l1 (by omega)), ev_bind (laws_eqHelloS_ev l2 (by omega)), if_true, ev_some]

theorem laws_markHelloS_loop (t : List S127) : ∀ (q : List S127) (a : Int), (q ++ t).length ≤ 9223372036854775806 → 0 ≤ a → a + 2 * t.length ≤ 9223372036854775807 → Ev (fun k => laws_markHelloS.l0 k (q ++ t) a (q.length : Int)) (a + 2 * t.length, q ++ marksHello t.length a) := by
  induction t with
  | nil =>
    intro q a _ _ _
    refine ev_succ.1 ?_
    simp only [laws_markHelloS.l0, c_end, Int.lt_irrefl, if_false, ev_some]
    simp [marksHello]
  | cons x t ih =>
    intro q a hb h0 h1
    refine ev_succ.1 ?_
    simp only [List.length_cons] at h1
    simp only [laws_markHelloS.l0, c_lt, c_nn, rdHello_at, c_set, ← c_app, Option.bind_some, c_next _ _ _ hb, if_true]
    rw [w64 (n := a + 1) (by omega) (by omega), w64 (n := a + 1 + 1) (by omega) (by omega), show ((q ++ [x]).length : Int) = ((q ++ [(⟨a, (Int.tmod (a + 1) 3) == 0⟩ : S127)]).length : Int) by simp]
    have := ih (q ++ [⟨a, (Int.tmod (a + 1) 3) == 0⟩]) (a + 2) (by simpa using hb) (by omega) (by omega)
    rw [show a + 2 * ((x :: t).length : Int) = a + 2 + 2 * (t.length : Int) by simp; omega, show q ++ marksHello (x :: t).length a = (q ++ [⟨a, (Int.tmod (a + 1) 3) == 0⟩]) ++ marksHello t.length (a + 2) by simp [marksHello]]
    rw [show a + 1 + 1 = a + 2 by omega]
    rw [← c_app] at this
    exact this
theorem laws_markHelloS_ev (l : List S127) (a : Int) (h : l.length ≤ 9223372036854775806) (h0 : 0 ≤ a) (h1 : a + 2 * l.length ≤ 9223372036854775807) : Ev (fun k => laws_markHelloS.f k l a) (a + 2 * l.length, marksHello l.length a) := laws_markHelloS_loop l [] a h h0 h1

theorem laws_markPair_ev (l0 l1 : List Int) (l2 : List S127) (h0 : l0.length ≤ 2097152) (h1 : l1.length ≤ 2097152) (h2 : l2.length ≤ 2097152) : Ev (fun k => laws_markPair.f k l0 l1 l2 1) (1 + l0.length + l1.length + 2 * l2.length, marks l0.length 1, marks l1.length (1 + l0.length), marksHello l2.length (1 + l0.length + l1.length)) := by
  unfold laws_markPair.f
  simp only [ev_bind (laws_markIntS_ev l0 1 (by omega) (by omega) (by omega)), ev_bind (laws_markIntS_ev l1 (1 + l0.length) (by omega) (by omega) (by omega)), ev_bind (laws_markHelloS_ev l2 (1 + l0.length + l1.length) (by omega) (by omega) (by omega)), ev_some]

theorem laws_heldHelloS_loop (n : Nat) : ∀ (p : List S127) (a : Int), p.length + n ≤ 9223372036854775806 → 0 ≤ a → a + 2 * n ≤ 9223372036854775807 → Ev (fun k => laws_heldHelloS.l0 k (p ++ marksHello n a) a (p.length : Int)) (a + 2 * n) := by
  induction n with
  | zero =>
    intro p a _ _ _
    refine ev_succ.1 ?_
    simp only [laws_heldHelloS.l0, marksHello, c_end, Int.lt_irrefl, if_false, ev_some]
    simp
  | succ n ih =>
    intro p a hb h0 h1
    refine ev_succ.1 ?_
    simp only [laws_heldHelloS.l0, marksHello, c_lt, c_nn, rdHello_at, if_true]
    rw [w64 (n := a + 1) (by omega) (by omega)]
    simp only [bne_self_eq_false, Bool.false_eq_true, if_false]
    rw [w64 (n := a + 1 + 1) (by omega) (by omega), c_next p (⟨a, (Int.tmod (a + 1) 3) == 0⟩ : S127) (marksHello n (a + 2)) (by simp [marksHello_length]; omega), c_app p (⟨a, (Int.tmod (a + 1) 3) == 0⟩ : S127) (marksHello n (a + 2)), show a + 1 + 1 = a + 2 by omega]
    have := ih (p ++ [⟨a, (Int.tmod (a + 1) 3) == 0⟩]) (a + 2) (by simp; omega) (by omega) (by omega)
    rw [show a + 2 * ((n + 1 : Nat) : Int) = a + 2 + 2 * (n : Int) by omega]
    simpa using this
theorem laws_heldHelloS_ev (n : Nat) (a : Int) (h : n ≤ 9223372036854775806) (h0 : 0 ≤ a) (h1 : a + 2 * n ≤ 9223372036854775807) : Ev (fun k => laws_heldHelloS.f k (marksHello n a) a) (a + 2 * n) := by
  unfold laws_heldHelloS.f
  exact laws_heldHelloS_loop n [] a (by simpa using h) h0 h1

theorem laws_heldPair_ev (n0 n1 n2 : Nat) (h0 : n0 ≤ 2097152) (h1 : n1 ≤ 2097152) (h2 : n2 ≤ 2097152) : Ev (fun k => laws_heldPair.f k (marks n0 1) (marks n1 (1 + n0)) (marksHello n2 (1 + n0 + n1)) 1) (1 + n0 + n1 + 2 * n2) := by
  unfold laws_heldPair.f
  simp only [ev_bind (laws_heldIntS_ev n0 1 (by omega) (by omega) (by omega)), show ((1 : Int) + (n0 : Int) < 0) = False from eq_false (by omega), if_false, ev_bind (laws_heldIntS_ev n1 (1 + n0) (by omega) (by omega) (by omega)), show ((1 : Int) + (n0 : Int) + (n1 : Int) < 0) = False from eq_false (by omega), ev_bind (laws_heldHelloS_ev n2 (1 + n0 + n1) (by omega) (by omega) (by omega)), show ((1 : Int) + (n0 : Int) + (n1 : Int) + 2 * (n2 : Int) < 0) = False from eq_false (by omega), ev_some]

end Go.Proofs.Ytolncjkfcmbieaa.Pure
