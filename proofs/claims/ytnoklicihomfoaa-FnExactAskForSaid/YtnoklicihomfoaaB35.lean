/- What functions of the program answer, as plain functions: used by the laws of this claim. -/
import Derived.Test.YtnoklicihomfoaaB0
import Derived.Test.YtnoklicihomfoaaF35
import Derived.Test.YtnoklicihomfoaaB32
import Derived.Test.YtnoklicihomfoaaB33
import Derived.Test.YtnoklicihomfoaaB34
namespace Go.Proofs.Ytnoklicihomfoaa.Pure
open Go.RowKit Go.Proofs.Ytnoklicihomfoaa.P Go.Proofs.YtnoklicihomfoaaW.PrintWords Go.Proofs.Ytnoklicihomfoaa.Q
set_option linter.unusedVariables false
set_option linter.unusedSimpArgs false

theorem impl_AskFor_ev (l : List S104) (lo hi : Int) (s : List S104) (hl : l.length ≤ 1000000000) (hs : s.length ≤ 1000000000) : Ev (fun k => impl_AskFor.f k l lo hi s) (if goodH (l.map hpr) && goodS lo hi (s.map hpr) then ((s.filter (fun x => decide (x.f1 > seqV (l.map hpr) x.f0))).map (fun x => x.f0), l.filter (fun x => inB lo hi x.f0 && decide (x.f1 > seqV (s.map hpr) x.f0)), true) else ([], [], false)) := by
  unfold impl_AskFor.f
  simp only [ev_bind (impl_GoodHaves_ev l (by omega)), ev_bind (impl_GoodSummary_ev lo hi s (by omega)), ev_bind (impl_ask_ev l lo hi s hl hs), ev_ite, ev_some]
  cases goodH (l.map hpr) <;> cases goodS lo hi (s.map hpr) <;> rfl


theorem laws_eqHaveS_loop (t : List S104) : ∀ p : List S104, (p ++ t).length ≤ 9223372036854775806 → Ev (fun k => laws_eqHaveS.l0 k (p ++ t) (p ++ t) (p.length : Int)) true := by
  induction t with
  | nil =>
    intro p _
    refine ev_succ.1 ?_
    simp only [laws_eqHaveS.l0, c_end, Int.lt_irrefl, if_false, ev_some]
  | cons x t ih =>
    intro p hb
    refine ev_succ.1 ?_
    simp only [laws_eqHaveS.l0, laws_eqHave.f, Option.bind_some, c_lt, c_nn, c_next _ _ _ hb, if_true]
    rw [c_app p x t]
    exact ih (p ++ [x]) (by rwa [← c_app])
theorem laws_eqHaveS_ev (l : List S104) (h : l.length ≤ 9223372036854775806) : Ev (fun k => laws_eqHaveS.f k l l) true := by
  unfold laws_eqHaveS.f
  simp only [if_true]
  exact laws_eqHaveS_loop l [] h

theorem laws_eqSummary_ev (lo hi : Int) (l : List S104) (h : l.length ≤ 9223372036854775806) : Ev (fun k => laws_eqSummary.f k lo hi l lo hi l) true := by
  unfold laws_eqSummary.f
  simp only [if_true, ev_bind (laws_eqHaveS_ev l h), ev_some]

theorem laws_markHaveS_loop (t : List S104) : ∀ (q : List S104) (a : Int), (q ++ t).length ≤ 9223372036854775806 → 0 ≤ a → a + 2 * t.length ≤ 9223372036854775807 → Ev (fun k => laws_markHaveS.l0 k (q ++ t) a (q.length : Int)) (a + 2 * t.length, q ++ marksHave t.length a) := by
  induction t with
  | nil =>
    intro q a _ _ _
    refine ev_succ.1 ?_
    simp only [laws_markHaveS.l0, c_end, Int.lt_irrefl, if_false, ev_some]
    simp [marksHave]
  | cons x t ih =>
    intro q a hb h0 h1
    refine ev_succ.1 ?_
    simp only [List.length_cons] at h1
    simp only [laws_markHaveS.l0, c_lt, c_nn, rdHave_at, c_set, ← c_app, Option.bind_some, c_next _ _ _ hb, if_true]
    rw [w64 (n := a + 1) (by omega) (by omega), w64 (n := a + 1 + 1) (by omega) (by omega), show ((q ++ [x]).length : Int) = ((q ++ [(⟨a, a + 1⟩ : S104)]).length : Int) by simp]
    have := ih (q ++ [⟨a, a + 1⟩]) (a + 2) (by simpa using hb) (by omega) (by omega)
    rw [show a + 2 * ((x :: t).length : Int) = a + 2 + 2 * (t.length : Int) by simp; omega, show q ++ marksHave (x :: t).length a = (q ++ [⟨a, a + 1⟩]) ++ marksHave t.length (a + 2) by simp [marksHave]]
    rw [show a + 1 + 1 = a + 2 by omega]
    rw [← c_app] at this
    exact this
theorem laws_markHaveS_ev (l : List S104) (a : Int) (h : l.length ≤ 9223372036854775806) (h0 : 0 ≤ a) (h1 : a + 2 * l.length ≤ 9223372036854775807) : Ev (fun k => laws_markHaveS.f k l a) (a + 2 * l.length, marksHave l.length a) := laws_markHaveS_loop l [] a h h0 h1

theorem laws_markSummary_ev (lo hi : Int) (l : List S104) (a : Int) (h : l.length ≤ 9223372036854775806) (h0 : 0 ≤ a) (h1 : a + 2 * l.length ≤ 9223372036854775807) : Ev (fun k => laws_markSummary.f k lo hi l a) (a + 2 * l.length, marksHave l.length a) := by
  unfold laws_markSummary.f
  simp only [ev_bind (laws_markHaveS_ev l a h h0 h1), ev_some]

theorem laws_heldHaveS_loop (n : Nat) : ∀ (p : List S104) (a : Int), p.length + n ≤ 9223372036854775806 → 0 ≤ a → a + 2 * n ≤ 9223372036854775807 → Ev (fun k => laws_heldHaveS.l0 k (p ++ marksHave n a) a (p.length : Int)) (a + 2 * n) := by
  induction n with
  | zero =>
    intro p a _ _ _
    refine ev_succ.1 ?_
    simp only [laws_heldHaveS.l0, marksHave, c_end, Int.lt_irrefl, if_false, ev_some]
    simp
  | succ n ih =>
    intro p a hb h0 h1
    refine ev_succ.1 ?_
    simp only [laws_heldHaveS.l0, marksHave, c_lt, c_nn, rdHave_at, if_true]
    rw [w64 (n := a + 1) (by omega) (by omega), w64 (n := a + 1 + 1) (by omega) (by omega), c_next p (⟨a, a + 1⟩ : S104) (marksHave n (a + 2)) (by simp [marksHave_length]; omega), c_app p (⟨a, a + 1⟩ : S104) (marksHave n (a + 2)), show a + 1 + 1 = a + 2 by omega]
    have := ih (p ++ [⟨a, a + 1⟩]) (a + 2) (by simp; omega) (by omega) (by omega)
    rw [show a + 2 * ((n + 1 : Nat) : Int) = a + 2 + 2 * (n : Int) by omega]
    simpa using this
theorem laws_heldHaveS_ev (n : Nat) (a : Int) (h : n ≤ 9223372036854775806) (h0 : 0 ≤ a) (h1 : a + 2 * n ≤ 9223372036854775807) : Ev (fun k => laws_heldHaveS.f k (marksHave n a) a) (a + 2 * n) := by
  unfold laws_heldHaveS.f
  exact laws_heldHaveS_loop n [] a (by simpa using h) h0 h1

end Go.Proofs.Ytnoklicihomfoaa.Pure
