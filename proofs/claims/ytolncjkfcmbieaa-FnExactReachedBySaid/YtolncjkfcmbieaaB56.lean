/- The plain statement behind the law FnExactReachedBy: for all arguments it answers true. -/
import Derived.Test.YtolncjkfcmbieaaB0
import Derived.Test.YtolncjkfcmbieaaF56
import Derived.Test.YtolncjkfcmbieaaB9
import Derived.Test.YtolncjkfcmbieaaB34
import Derived.Test.YtolncjkfcmbieaaB55
namespace Go.Proofs.Ytolncjkfcmbieaa.Pure
open Go.RowKit Go.Proofs.Ytolncjkfcmbieaa.P Go.Proofs.YtolncjkfcmbieaaW.PrintWords Go.Proofs.Ytolncjkfcmbieaa.Q
set_option linter.unusedVariables false
set_option linter.unusedSimpArgs false

theorem laws_eqHopS_loop (t : List S162) : ∀ p : List S162, (p ++ t).length ≤ 9223372036854775806 → Ev (fun k => laws_eqHopS.l0 k (p ++ t) (p ++ t) (p.length : Int)) true := by
  induction t with
  | nil =>
    intro p _
    refine ev_succ.1 ?_
    simp only [laws_eqHopS.l0, c_end, Int.lt_irrefl, if_false, ev_some]
  | cons x t ih =>
    intro p hb
    refine ev_succ.1 ?_
    simp only [laws_eqHopS.l0, laws_eqHop.f, Option.bind_some, c_lt, c_nn, c_next _ _ _ hb, if_true]
    rw [c_app p x t]
    exact ih (p ++ [x]) (by rwa [← c_app])
theorem laws_eqHopS_ev (l : List S162) (h : l.length ≤ 9223372036854775806) : Ev (fun k => laws_eqHopS.f k l l) true := by
  unfold laws_eqHopS.f
  simp only [if_true]
  exact laws_eqHopS_loop l [] h

theorem laws_markHopS_loop (t : List S162) : ∀ (q : List S162) (a : Int), (q ++ t).length ≤ 9223372036854775806 → 0 ≤ a → a + 2 * t.length ≤ 9223372036854775807 → Ev (fun k => laws_markHopS.l0 k (q ++ t) a (q.length : Int)) (a + 2 * t.length, q ++ marksHop t.length a) := by
  induction t with
  | nil =>
    intro q a _ _ _
    refine ev_succ.1 ?_
    simp only [laws_markHopS.l0, c_end, Int.lt_irrefl, if_false, ev_some]
    simp [marksHop]
  | cons x t ih =>
    intro q a hb h0 h1
    refine ev_succ.1 ?_
    simp only [List.length_cons] at h1
    simp only [laws_markHopS.l0, c_lt, c_nn, rdHop_at, c_set, ← c_app, Option.bind_some, c_next _ _ _ hb, if_true]
    rw [w64 (n := a + 1) (by omega) (by omega), w64 (n := a + 1 + 1) (by omega) (by omega), show ((q ++ [x]).length : Int) = ((q ++ [(⟨a, a + 1⟩ : S162)]).length : Int) by simp]
    have := ih (q ++ [⟨a, a + 1⟩]) (a + 2) (by simpa using hb) (by omega) (by omega)
    rw [show a + 2 * ((x :: t).length : Int) = a + 2 + 2 * (t.length : Int) by simp; omega, show q ++ marksHop (x :: t).length a = (q ++ [⟨a, a + 1⟩]) ++ marksHop t.length (a + 2) by simp [marksHop]]
    rw [show a + 1 + 1 = a + 2 by omega]
    rw [← c_app] at this
    exact this
theorem laws_markHopS_ev (l : List S162) (a : Int) (h : l.length ≤ 9223372036854775806) (h0 : 0 ≤ a) (h1 : a + 2 * l.length ≤ 9223372036854775807) : Ev (fun k => laws_markHopS.f k l a) (a + 2 * l.length, marksHop l.length a) := laws_markHopS_loop l [] a h h0 h1

theorem FnExactReachedBy (l0 : List S166) (a : Int) (hl : l0.length ≤ maxLen ∧ ∀ y ∈ l0, G166 y) (_ : (Lit.int .i64 a).wf = true) : ∃ k, laws_FnExactReachedBy.f k l0 a = some true := by
  refine Ev.rounds ?_
  unfold laws_FnExactReachedBy.f
  simp only [laws_szHopS_eq l0 1048576 hl.1 (by omega) (by omega), Option.bind_some]
  by_cases hbig : (l0.length : Int) > 1048576
  · simp only [hbig, if_true]; exact Ev.now _
  have hc : ¬ ((1048576 : Int) - (l0.length : Int) < 0) := by omega
  have hs : (l0.map toHop).length ≤ 1048576 := by simp; omega
  have hto := laws_toHopS_ev l0 (by omega)
  simp only [hbig, hc, if_false, ev_bind hto]
  generalize l0.map toHop = l at hs hto ⊢
  have hi := impl_ReachedBy_ev l a (by omega)
  have hw := spec_ReachedBy_ev l a (by omega)
  have hv1 : (if (decide (l.length ≤ 40) && (inB 0 11 a && l.all hopB)) = true then (specR [a] l, true) else ([], false)).1.length ≤ 1048577 := by
    split
    · have := specR_length l [a]; simp only [List.length_cons, List.length_nil] at this; simp only; omega
    · simp
  generalize (if (decide (l.length ≤ 40) && (inB 0 11 a && l.all hopB)) = true then (specR [a] l, true) else (([] : List Int), false)) = v at hi hw hv1
  obtain ⟨r1, r2⟩ := v
  simp only at hv1
  simp only [ev_bind hto, ev_bind hw, ev_bind hi, ev_bind (laws_eqIntS_ev r1 (by omega)), if_true, bne_self_eq_false]
  refine ev_succ.1 ?_
  simp only [laws_FnExactReachedBy.j0, Bool.false_eq_true, if_false, if_true, bne_self_eq_false, ev_bind hto, ev_bind (laws_eqHopS_ev l (by omega)), ev_bind (laws_eqIntS_ev r1 (by omega)), ev_bind (laws_markHopS_ev l 1 (by omega) (by omega) (by omega)), show (1 + 2 * (l.length : Int) < 0) = False from eq_false (by omega)]
  refine ev_succ.1 ?_
  simp only [laws_FnExactReachedBy.j1, Bool.false_eq_true, if_false, if_true, bne_self_eq_false, ev_bind (laws_markIntS_ev r1 1 (by omega) (by omega) (by omega)), ev_bind (laws_heldIntS_ev r1.length 1 (by omega) (by omega) (by omega)), show (1 + (r1.length : Int) < 0) = False from eq_false (by omega), ev_bind hto, ev_bind hi, ev_bind (laws_eqIntS_ev r1 (by omega))]
  refine ev_succ.1 ?_
  simp only [laws_FnExactReachedBy.j2, Bool.false_eq_true, if_false, if_true, bne_self_eq_false, ev_bind (laws_heldIntS_ev r1.length 1 (by omega) (by omega) (by omega)), show (1 + (r1.length : Int) < 0) = False from eq_false (by omega)]
  exact Ev.now _

end Go.Proofs.Ytolncjkfcmbieaa.Pure
