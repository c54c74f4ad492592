/- What functions of the program answer, as plain functions: used by the laws of this claim. -/
import Derived.Test.YtolncjkfcmbieaaB0
import Derived.Test.YtolncjkfcmbieaaF49
import Derived.Test.YtolncjkfcmbieaaB9
import Derived.Test.YtolncjkfcmbieaaB43
import Derived.Test.YtolncjkfcmbieaaB46
import Derived.Test.YtolncjkfcmbieaaB48
namespace Go.Proofs.Ytolncjkfcmbieaa.Pure
open Go.RowKit Go.Proofs.Ytolncjkfcmbieaa.P Go.Proofs.YtolncjkfcmbieaaW.PrintWords Go.Proofs.Ytolncjkfcmbieaa.Q
set_option linter.unusedVariables false
set_option linter.unusedSimpArgs false

theorem laws_toPairStepS_loop (t : List S43) : ∀ (p : List S43), (p ++ t).length ≤ 9223372036854775806 → Ev (fun k => laws_toPairStepS.l0 k (p ++ t) (p.map toPairStep ++ List.replicate t.length z51) (p.length : Int)) ((p ++ t).map toPairStep) := by
  induction t with
  | nil =>
    intro p _
    refine ev_succ.1 ?_
    simp only [laws_toPairStepS.l0, c_end, Int.lt_irrefl, if_false, ev_some, List.length_nil, List.replicate_zero, List.append_nil]
  | cons x t ih =>
    intro p hb
    refine ev_succ.1 ?_
    have e : p.map toPairStep ++ List.replicate (x :: t).length z51 = p.map toPairStep ++ z51 :: List.replicate t.length z51 := rfl
    have e2 : (p.length : Int) = ((p.map toPairStep).length : Int) := by simp
    have e3 : (p.length : Int) < ((p.map toPairStep ++ z51 :: List.replicate t.length z51).length : Int) := by simp; omega
    have e4 : ∀ y, (p.map toPairStep ++ z51 :: List.replicate t.length z51).set ((p.length : Int)).toNat y = (p.map toPairStep ++ [y]) ++ List.replicate t.length z51 := by intro y; rw [e2]; exact c_set _ _ _ _
    simp only [laws_toPairStepS.l0, laws_toPairStep.f, e, e3, e4, c_lt, c_nn, rdLPairStep_at, c_next _ _ _ hb, if_true, Option.bind_some]
    have := ih (p ++ [x]) (by rwa [← c_app])
    rw [← c_app, List.map_append] at this
    exact this
theorem laws_toPairStepS_ev (l : List S43) (h : l.length ≤ 17592186044416) : Ev (fun k => laws_toPairStepS.f k l) (l.map toPairStep) := by
  unfold laws_toPairStepS.f
  simp only [Int.toNat_natCast, h, c_nn, if_true]
  exact laws_toPairStepS_loop l [] (by simp; omega)

theorem impl_NewPair_eq : impl_NewPair.f 0 = some ([0, 0], [0, 0], [], true) := by
  unfold impl_NewPair.f
  simp only [impl_in_eq, Option.bind_some]
  rfl

theorem impl_PlayPair_ev (l : List S51) : Ev (fun k => impl_PlayPair.f k l) (playedV l) := by
  unfold impl_PlayPair.f playedV
  by_cases h : (l.length : Int) > 60
  · simp only [h, if_true, ev_some]
  · simp only [h, if_false, impl_NewPair_eq, Option.bind_some, ev_bind (impl_played_ev l [0, 0] [0, 0] [] (by omega) (by simp)), ev_some]

theorem rdB_at (p : List Bool) (x : Bool) (t : List Bool) : rdOf false (p ++ x :: t) (p.length : Int) = x := by simp [rdOf]
theorem laws_eqBoolS_loop (t : List Bool) : ∀ p : List Bool, (p ++ t).length ≤ 9223372036854775806 → Ev (fun k => laws_eqBoolS.l0 k (p ++ t) (p ++ t) (p.length : Int)) true := by
  induction t with
  | nil =>
    intro p _
    refine ev_succ.1 ?_
    simp only [laws_eqBoolS.l0, c_end, Int.lt_irrefl, if_false, ev_some]
  | cons x t ih =>
    intro p hb
    refine ev_succ.1 ?_
    simp only [laws_eqBoolS.l0, c_lt, c_nn, rdB_at, bne_self_eq_false, Bool.false_eq_true, if_false, c_next _ _ _ hb, if_true]
    rw [c_app p x t]
    exact ih (p ++ [x]) (by rwa [← c_app])
theorem laws_eqBoolS_ev (l : List Bool) (h : l.length ≤ 9223372036854775806) : Ev (fun k => laws_eqBoolS.f k l l) true := by
  unfold laws_eqBoolS.f
  simp only [if_true]
  exact laws_eqBoolS_loop l [] h


theorem laws_eqPairStepS_loop (t : List S51) : ∀ p : List S51, (p ++ t).length ≤ 9223372036854775806 → Ev (fun k => laws_eqPairStepS.l0 k (p ++ t) (p ++ t) (p.length : Int)) true := by
  induction t with
  | nil =>
    intro p _
    refine ev_succ.1 ?_
    simp only [laws_eqPairStepS.l0, c_end, Int.lt_irrefl, if_false, ev_some]
  | cons x t ih =>
    intro p hb
    refine ev_succ.1 ?_
    simp only [laws_eqPairStepS.l0, laws_eqPairStep.f, Option.bind_some, c_lt, c_nn, c_next _ _ _ hb, if_true]
    rw [c_app p x t]
    exact ih (p ++ [x]) (by rwa [← c_app])
theorem laws_eqPairStepS_ev (l : List S51) (h : l.length ≤ 9223372036854775806) : Ev (fun k => laws_eqPairStepS.f k l l) true := by
  unfold laws_eqPairStepS.f
  simp only [if_true]
  exact laws_eqPairStepS_loop l [] h

theorem laws_markPairStepS_loop (t : List S51) : ∀ (q : List S51) (a : Int), (q ++ t).length ≤ 9223372036854775806 → 0 ≤ a → a + 2 * t.length ≤ 9223372036854775807 → Ev (fun k => laws_markPairStepS.l0 k (q ++ t) a (q.length : Int)) (a + 2 * t.length, q ++ marksPairStep t.length a) := by
  induction t with
  | nil =>
    intro q a _ _ _
    refine ev_succ.1 ?_
    simp only [laws_markPairStepS.l0, c_end, Int.lt_irrefl, if_false, ev_some]
    simp [marksPairStep]
  | cons x t ih =>
    intro q a hb h0 h1
    refine ev_succ.1 ?_
    simp only [List.length_cons] at h1
    simp only [laws_markPairStepS.l0, c_lt, c_nn, rdPairStep_at, c_set, ← c_app, Option.bind_some, c_next _ _ _ hb, if_true]
    rw [w64 (n := a + 1) (by omega) (by omega), w64 (n := a + 1 + 1) (by omega) (by omega), show ((q ++ [x]).length : Int) = ((q ++ [(⟨a, a + 1⟩ : S51)]).length : Int) by simp]
    have := ih (q ++ [⟨a, a + 1⟩]) (a + 2) (by simpa using hb) (by omega) (by omega)
    rw [show a + 2 * ((x :: t).length : Int) = a + 2 + 2 * (t.length : Int) by simp; omega, show q ++ marksPairStep (x :: t).length a = (q ++ [⟨a, a + 1⟩]) ++ marksPairStep t.length (a + 2) by simp [marksPairStep]]
    rw [show a + 1 + 1 = a + 2 by omega]
    rw [← c_app] at this
    exact this
theorem laws_markPairStepS_ev (l : List S51) (a : Int) (h : l.length ≤ 9223372036854775806) (h0 : 0 ≤ a) (h1 : a + 2 * l.length ≤ 9223372036854775807) : Ev (fun k => laws_markPairStepS.f k l a) (a + 2 * l.length, marksPairStep l.length a) := laws_markPairStepS_loop l [] a h h0 h1

def marksB : Nat → Int → List Bool
  | 0, _ => []
  | n + 1, a => ((Int.tmod a 3) == 0) :: marksB n (a + 1)
theorem marksB_length (n : Nat) : ∀ a, (marksB n a).length = n := by
  induction n with
  | zero => intro a; rfl
  | succ n ih => intro a; simp [marksB, ih]
theorem laws_markBoolS_loop (t : List Bool) : ∀ (q : List Bool) (a : Int), (q ++ t).length ≤ 9223372036854775806 → 0 ≤ a → a + t.length ≤ 9223372036854775807 → Ev (fun k => laws_markBoolS.l0 k (q ++ t) a (q.length : Int)) (a + t.length, q ++ marksB t.length a) := by
  induction t with
  | nil =>
    intro q a _ _ _
    refine ev_succ.1 ?_
    simp only [laws_markBoolS.l0, c_end, Int.lt_irrefl, if_false, ev_some]
    simp [marksB]
  | cons x t ih =>
    intro q a hb h0 h1
    refine ev_succ.1 ?_
    simp only [List.length_cons] at h1
    simp only [laws_markBoolS.l0, c_lt, c_nn, c_set, c_next _ _ _ hb, if_true]
    rw [w64 (n := a + 1) (by omega) (by omega), show ((q ++ [x]).length : Int) = ((q ++ [((Int.tmod a 3) == 0)]).length : Int) by simp]
    have := ih (q ++ [((Int.tmod a 3) == 0)]) (a + 1) (by simpa using hb) (by omega) (by omega)
    rw [show a + ((x :: t).length : Int) = a + 1 + (t.length : Int) by simp; omega, show q ++ marksB (x :: t).length a = (q ++ [((Int.tmod a 3) == 0)]) ++ marksB t.length (a + 1) by simp [marksB]]
    exact this
theorem laws_markBoolS_ev (l : List Bool) (a : Int) (h : l.length ≤ 9223372036854775806) (h0 : 0 ≤ a) (h1 : a + l.length ≤ 9223372036854775807) : Ev (fun k => laws_markBoolS.f k l a) (a + l.length, marksB l.length a) := laws_markBoolS_loop l [] a h h0 h1

theorem laws_heldBoolS_loop (n : Nat) : ∀ (p : List Bool) (a : Int), p.length + n ≤ 9223372036854775806 → 0 ≤ a → a + n ≤ 9223372036854775807 → Ev (fun k => laws_heldBoolS.l0 k (p ++ marksB n a) a (p.length : Int)) (a + n) := by
  induction n with
  | zero =>
    intro p a _ _ _
    refine ev_succ.1 ?_
    simp only [laws_heldBoolS.l0, marksB, c_end, Int.lt_irrefl, if_false, ev_some]
    simp
  | succ n ih =>
    intro p a hb h0 h1
    refine ev_succ.1 ?_
    simp only [laws_heldBoolS.l0, marksB, c_lt, c_nn, rdB_at, bne_self_eq_false, Bool.false_eq_true, if_false, if_true]
    rw [w64 (n := a + 1) (by omega) (by omega), c_next p ((Int.tmod a 3) == 0) (marksB n (a + 1)) (by simp [marksB_length]; omega), c_app p ((Int.tmod a 3) == 0) (marksB n (a + 1))]
    have := ih (p ++ [((Int.tmod a 3) == 0)]) (a + 1) (by simp; omega) (by omega) (by omega)
    rw [show a + ((n + 1 : Nat) : Int) = a + 1 + (n : Int) by omega]
    exact this
theorem laws_heldBoolS_ev (n : Nat) (a : Int) (h : n ≤ 9223372036854775806) (h0 : 0 ≤ a) (h1 : a + n ≤ 9223372036854775807) : Ev (fun k => laws_heldBoolS.f k (marksB n a) a) (a + n) := by
  unfold laws_heldBoolS.f
  exact laws_heldBoolS_loop n [] a (by simpa using h) h0 h1

end Go.Proofs.Ytolncjkfcmbieaa.Pure
