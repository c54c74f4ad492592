/- What functions of the program answer, as plain functions: used by the laws of this claim. -/
import Derived.Test.YtpohlcjkabojcaaB0
import Derived.Test.YtpohlcjkabojcaaF8
import Derived.Test.YtpohlcjkabojcaaB2
import Derived.Test.YtpohlcjkabojcaaB5
import Derived.Test.YtpohlcjkabojcaaB6
import Derived.Test.YtpohlcjkabojcaaQHaves
namespace Go.Proofs.Ytpohlcjkabojcaa.Pure
open Go.RowKit Go.Proofs.Ytpohlcjkabojcaa.P Go.Proofs.YtpohlcjkabojcaaW.PrintWords Go.Proofs.Ytpohlcjkabojcaa.Q
set_option linter.unusedVariables false
set_option linter.unusedSimpArgs false

theorem spec_UpLinks_ev (n : Int) (l : List S86) (d : List Int) (h : List S130) (hl : l.length ≤ 1000000000) (hd : d.length ≤ 1000000000) (hh : plSize h ≤ 1000000000) : Ev (fun k => spec_UpLinks.f k n l d h) (if goodC n (l.map trip) d (h.map pl3) = true then (dropFrom d 0 l, true) else ([], false)) := by
  unfold spec_UpLinks.f
  simp only [ev_bind (spec_GoodCampus_ev n l d h hl hd hh)]
  cases goodC n (l.map trip) d (h.map pl3)
  · simp only [Bool.false_eq_true, if_false]; exact Ev.now _
  · simp only [if_true, ev_bind (spec_l17Up_ev n l d h hl hd)]; exact Ev.now _

theorem impl_UpLinks_ev (n : Int) (l : List S86) (d : List Int) (h : List S130) (hl : l.length ≤ 1000000000) (hd : d.length ≤ 1000000000) (hh : plSize h ≤ 1000000000) : Ev (fun k => impl_UpLinks.f k n l d h) (if goodC n (l.map trip) d (h.map pl3) = true then (dropFrom d 0 l, true) else ([], false)) := by
  unfold impl_UpLinks.f
  simp only [ev_bind (impl_GoodCampus_ev n l d h hl hd hh)]
  cases goodC n (l.map trip) d (h.map pl3)
  · simp only [Bool.false_eq_true, if_false]; exact Ev.now _
  · simp only [if_true, ev_bind (impl_Campus_up_ev n l d h hl hd)]; exact Ev.now _

theorem laws_heldEdgeS_loop (n : Nat) : ∀ (p : List S86) (a : Int), p.length + n ≤ 9223372036854775806 → 0 ≤ a → a + 3 * n ≤ 9223372036854775807 → Ev (fun k => laws_heldEdgeS.l0 k (p ++ marksE n a) a (p.length : Int)) (a + 3 * n) := by
  induction n with
  | zero =>
    intro p a _ _ _
    refine ev_succ.1 ?_
    simp only [laws_heldEdgeS.l0, marksE, c_end, Int.lt_irrefl, if_false, ev_some]
    simp
  | succ n ih =>
    intro p a hb h0 h1
    refine ev_succ.1 ?_
    simp only [laws_heldEdgeS.l0, marksE, c_lt, c_nn, rdE_at, if_true]
    rw [w64 (n := a + 1) (by omega) (by omega), w64 (n := a + 1 + 1) (by omega) (by omega), w64 (n := a + 1 + 1 + 1) (by omega) (by omega), c_next p (⟨a, a + 1, a + 2⟩ : S86) (marksE n (a + 3)) (by simp [marksE_length]; omega), c_app p (⟨a, a + 1, a + 2⟩ : S86) (marksE n (a + 3)), show a + 1 + 1 = a + 2 by omega, show a + 2 + 1 = a + 3 by omega]
    have := ih (p ++ [⟨a, a + 1, a + 2⟩]) (a + 3) (by simp; omega) (by omega) (by omega)
    rw [show a + 3 * ((n + 1 : Nat) : Int) = a + 3 + 3 * (n : Int) by omega]
    simpa using this
theorem laws_heldEdgeS_ev (n : Nat) (a : Int) (h : n ≤ 9223372036854775806) (h0 : 0 ≤ a) (h1 : a + 3 * n ≤ 9223372036854775807) : Ev (fun k => laws_heldEdgeS.f k (marksE n a) a) (a + 3 * n) := by
  unfold laws_heldEdgeS.f
  exact laws_heldEdgeS_loop n [] a (by simpa using h) h0 h1

end Go.Proofs.Ytpohlcjkabojcaa.Pure
