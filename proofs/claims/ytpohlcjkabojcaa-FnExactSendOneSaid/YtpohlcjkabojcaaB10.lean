/- What functions of the program answer, as plain functions: used by the laws of this claim. -/
import Derived.Test.YtpohlcjkabojcaaB0
import Derived.Test.YtpohlcjkabojcaaF10
namespace Go.Proofs.Ytpohlcjkabojcaa.Pure
open Go.RowKit Go.Proofs.Ytpohlcjkabojcaa.P Go.Proofs.YtpohlcjkabojcaaW.PrintWords Go.Proofs.Ytpohlcjkabojcaa.Q
set_option linter.unusedVariables false
set_option linter.unusedSimpArgs false

theorem laws_markEdgeS_loop (t : List S86) : ∀ (q : List S86) (a : Int), (q ++ t).length ≤ 9223372036854775806 → 0 ≤ a → a + 3 * t.length ≤ 9223372036854775807 → Ev (fun k => laws_markEdgeS.l0 k (q ++ t) a (q.length : Int)) (a + 3 * t.length, q ++ marksE t.length a) := by
  induction t with
  | nil =>
    intro q a _ _ _
    refine ev_succ.1 ?_
    simp only [laws_markEdgeS.l0, c_end, Int.lt_irrefl, if_false, ev_some]
    simp [marksE]
  | cons x t ih =>
    intro q a hb h0 h1
    refine ev_succ.1 ?_
    simp only [List.length_cons] at h1
    simp only [laws_markEdgeS.l0, c_lt, c_nn, rdE_at, c_set, ← c_app, Option.bind_some, c_next _ _ _ hb, if_true]
    rw [w64 (n := a + 1) (by omega) (by omega), w64 (n := a + 1 + 1) (by omega) (by omega), w64 (n := a + 1 + 1 + 1) (by omega) (by omega), show ((q ++ [x]).length : Int) = ((q ++ [(⟨a, a + 1, a + 2⟩ : S86)]).length : Int) by simp]
    have := ih (q ++ [⟨a, a + 1, a + 2⟩]) (a + 3) (by simpa using hb) (by omega) (by omega)
    rw [show a + 3 * ((x :: t).length : Int) = a + 3 + 3 * (t.length : Int) by simp; omega, show q ++ marksE (x :: t).length a = (q ++ [⟨a, a + 1, a + 2⟩]) ++ marksE t.length (a + 3) by simp [marksE]]
    rw [show a + 1 + 1 = a + 2 by omega, show a + 2 + 1 = a + 3 by omega]
    rw [← c_app] at this
    exact this
theorem laws_markEdgeS_ev (l : List S86) (a : Int) (h : l.length ≤ 9223372036854775806) (h0 : 0 ≤ a) (h1 : a + 3 * l.length ≤ 9223372036854775807) : Ev (fun k => laws_markEdgeS.f k l a) (a + 3 * l.length, marksE l.length a) := laws_markEdgeS_loop l [] a h h0 h1

theorem laws_markIntS_loop (t : List Int) : ∀ (q : List Int) (a : Int), (q ++ t).length ≤ 9223372036854775806 → 0 ≤ a → a + t.length ≤ 9223372036854775807 → Ev (fun k => laws_markIntS.l0 k (q ++ t) a (q.length : Int)) (a + t.length, q ++ marks t.length a) := by
  induction t with
  | nil =>
    intro q a _ _ _
    refine ev_succ.1 ?_
    simp only [laws_markIntS.l0, c_end, Int.lt_irrefl, if_false, ev_some]
    simp [marks]
  | cons x t ih =>
    intro q a hb h0 h1
    refine ev_succ.1 ?_
    simp only [List.length_cons] at h1
    simp only [laws_markIntS.l0, c_lt, c_nn, c_set, c_next _ _ _ hb, if_true]
    rw [w64 (n := a + 1) (by omega) (by omega), show ((q ++ [x]).length : Int) = ((q ++ [a]).length : Int) by simp]
    have := ih (q ++ [a]) (a + 1) (by simpa using hb) (by omega) (by omega)
    rw [show a + ((x :: t).length : Int) = a + 1 + (t.length : Int) by simp; omega, show q ++ marks (x :: t).length a = (q ++ [a]) ++ marks t.length (a + 1) by simp [marks]]
    exact this
theorem laws_markIntS_ev (l : List Int) (a : Int) (h : l.length ≤ 9223372036854775806) (h0 : 0 ≤ a) (h1 : a + l.length ≤ 9223372036854775807) : Ev (fun k => laws_markIntS.f k l a) (a + l.length, marks l.length a) := laws_markIntS_loop l [] a h h0 h1

/-- How many numbers places take. -/
def plMarks : List S130 → Nat
  | [] => 0
  | p :: t => 2 + p.f2.length + plMarks t
theorem plMarks_le : ∀ l : List S130, plMarks l ≤ 2 * plSize l
  | [] => by simp [plMarks, plSize]
  | p :: t => by have := plMarks_le t; simp only [plMarks, plSize]; omega
theorem laws_markPlaceS_loop (t : List S130) : ∀ (q : List S130) (a : Int), (q ++ t).length ≤ 1000000000 → 0 ≤ a → a + plMarks t ≤ 4000000000000 → ∃ r, Ev (fun k => laws_markPlaceS.l0 k (q ++ t) a (q.length : Int)) (a + plMarks t, r) := by
  induction t with
  | nil =>
    intro q a _ _ _
    refine ⟨q ++ [], ev_succ.1 ?_⟩
    simp only [laws_markPlaceS.l0, c_end, Int.lt_irrefl, if_false, plMarks, show a + ((0 : Nat) : Int) = a by omega]
    exact Ev.now _
  | cons x t ih =>
    intro q a hb h0 h1
    simp only [plMarks] at h1
    obtain ⟨r, he⟩ := ih (q ++ [⟨a, a + 1, marks x.f2.length (a + 1 + 1)⟩]) (a + 1 + 1 + (x.f2.length : Int)) (by simpa using hb) (by omega) (by omega)
    refine ⟨r, ev_succ.1 ?_⟩
    simp only [laws_markPlaceS.l0, c_lt, c_nn, rdPlace_at, c_set, c_next _ _ _ (show (q ++ x :: t).length ≤ 9223372036854775806 by omega), if_true, w64 (n := a + 1) (by omega) (by omega), w64 (n := a + 1 + 1) (by omega) (by omega), ev_bind (laws_markIntS_ev x.f2 (a + 1 + 1) (by omega) (by omega) (by omega)), plMarks]
    rw [show ((q ++ [x]).length : Int) = ((q ++ [(⟨a, a + 1, marks x.f2.length (a + 1 + 1)⟩ : S130)]).length : Int) by simp, show a + ((2 + x.f2.length + plMarks t : Nat) : Int) = a + 1 + 1 + (x.f2.length : Int) + (plMarks t : Int) by omega]
    exact he
theorem laws_markPlaceS_ev (l : List S130) (a : Int) (h : plSize l ≤ 1000000000) (h0 : 0 ≤ a) (h1 : a ≤ 1000000000) : ∃ r, Ev (fun k => laws_markPlaceS.f k l a) (a + plMarks l, r) := by
  have := plMarks_le l
  obtain ⟨r, he⟩ := laws_markPlaceS_loop l [] a (by have := (plSize_mem l _ h).1; simpa using this) h0 (by omega)
  exact ⟨r, by simpa [laws_markPlaceS.f] using he⟩

theorem laws_markCampus_ev (n : Int) (l : List S86) (d : List Int) (h : List S130) (hl : l.length ≤ 1048576) (hd : d.length ≤ 1048576) (hh : plSize h ≤ 1048576) : ∃ r : Int, 0 ≤ r ∧ Ev (fun k => laws_markCampus.f k n l d h 1) (r, marksE l.length 1, marks d.length (1 + 3 * l.length)) := by
  obtain ⟨r, he⟩ := laws_markPlaceS_ev h (1 + 3 * (l.length : Int) + (d.length : Int)) (by omega) (by omega) (by omega)
  refine ⟨1 + 3 * (l.length : Int) + (d.length : Int) + (plMarks h : Int), by omega, ?_⟩
  unfold laws_markCampus.f
  simp only [ev_bind (laws_markEdgeS_ev l 1 (by omega) (by omega) (by omega)), ev_bind (laws_markIntS_ev d (1 + 3 * l.length) (by omega) (by omega) (by omega)), ev_bind he]
  exact Ev.now _

end Go.Proofs.Ytpohlcjkabojcaa.Pure
