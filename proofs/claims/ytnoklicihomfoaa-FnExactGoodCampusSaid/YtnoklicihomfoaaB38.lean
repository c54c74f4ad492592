/- What functions of the program answer, as plain functions: used by the laws of this claim. -/
import Derived.Test.YtnoklicihomfoaaB0
import Derived.Test.YtnoklicihomfoaaF38
import Derived.Test.YtnoklicihomfoaaB3
import Derived.Test.YtnoklicihomfoaaB11
namespace Go.Proofs.Ytnoklicihomfoaa.Pure
open Go.RowKit Go.Proofs.Ytnoklicihomfoaa.P Go.Proofs.YtnoklicihomfoaaW.PrintWords Go.Proofs.Ytnoklicihomfoaa.Q
set_option linter.unusedVariables false
set_option linter.unusedSimpArgs false

theorem laws_eqPlace_ev (x y : Int) (l : List Int) (h : l.length ≤ 9223372036854775806) : Ev (fun k => laws_eqPlace.f k x y l x y l) true := by
  unfold laws_eqPlace.f
  simp only [if_true, ev_bind (laws_eqIntS_ev l h), ev_some]

theorem laws_eqPlaceS_loop (t : List S118) : ∀ p : List S118, (p ++ t).length ≤ 9223372036854775806 → (∀ x ∈ t, x.f2.length ≤ 9223372036854775806) → Ev (fun k => laws_eqPlaceS.l0 k (p ++ t) (p ++ t) (p.length : Int)) true := by
  induction t with
  | nil =>
    intro p _ _
    refine ev_succ.1 ?_
    simp only [laws_eqPlaceS.l0, c_end, Int.lt_irrefl, if_false, ev_some]
  | cons x t ih =>
    intro p hb hx
    refine ev_succ.1 ?_
    simp only [laws_eqPlaceS.l0, c_lt, c_nn, rdPlace_at, ev_bind (laws_eqPlace_ev x.f0 x.f1 x.f2 (hx x (by simp))), c_next _ _ _ hb, if_true]
    rw [c_app p x t]
    exact ih (p ++ [x]) (by rwa [← c_app]) (fun y hy => hx y (by simp [hy]))
theorem laws_eqPlaceS_ev (l : List S118) (h : plSize l ≤ 4611686018427387904) : Ev (fun k => laws_eqPlaceS.f k l l) true := by
  have h2 := plSize_mem l _ h
  unfold laws_eqPlaceS.f
  simp only [if_true]
  exact laws_eqPlaceS_loop l [] (by simp; omega) (fun x hx => by have := h2.2 x hx; omega)

theorem laws_eqCampus_ev (n : Int) (l : List S84) (d : List Int) (h : List S118) (hl : l.length ≤ 1000000000) (hd : d.length ≤ 1000000000) (hh : plSize h ≤ 1000000000) : Ev (fun k => laws_eqCampus.f k n l d h n l d h) true := by
  unfold laws_eqCampus.f
  simp only [if_true, ev_bind (laws_eqEdgeS_ev l (by omega)), ev_bind (laws_eqIntS_ev d (by omega)), ev_bind (laws_eqPlaceS_ev h (by omega)), ev_some]

theorem laws_szIntS_eq (l : List Int) (a : Int) (h : l.length ≤ maxLen) (h0 : 0 ≤ a) (h1 : a ≤ 1048576) : laws_szIntS.f l a = some (if (l.length : Int) > a then -1 else a - (l.length : Int)) := by
  unfold laws_szIntS.f
  unfold maxLen at h
  rw [w64 (by omega) (by omega)]
  split <;> split <;> first | rfl | omega

theorem laws_szPlace_eq (x y : Int) (l : List Int) (a : Int) (h : l.length ≤ maxLen) (h0 : 0 ≤ a) (h1 : a ≤ 1048576) : laws_szPlace.f x y l a = some (if (l.length : Int) > a then -1 else a - (l.length : Int)) := by
  unfold laws_szPlace.f
  rw [laws_szIntS_eq l a h h0 h1]
  simp only [Option.bind_some]
  split <;> split <;> first | rfl | omega

theorem laws_szPlaceS_loop (t : List S141) : ∀ (p : List S141) (a : Int), (p ++ t).length ≤ 9223372036854775806 → (∀ x ∈ t, x.f2.length ≤ maxLen) → 0 ≤ a → a ≤ 1048576 → Ev (fun k => laws_szPlaceS.l0 k (p ++ t) a (p.length : Int)) (if (lplIn t : Int) > a then -1 else a - (lplIn t : Int)) := by
  induction t with
  | nil =>
    intro p a _ _ h0 _
    refine ev_succ.1 ?_
    rw [show lplIn ([] : List S141) = 0 from rfl]
    simp only [laws_szPlaceS.l0, c_end, Int.lt_irrefl, if_false, ev_some]
    rw [if_neg (by omega)]; simp
  | cons x t ih =>
    intro p a hb hx h0 h1
    refine ev_succ.1 ?_
    simp only [laws_szPlaceS.l0, c_lt, c_nn, rdLPlace_at, c_next p x t hb, if_true, laws_szPlace_eq x.f0 x.f1 x.f2 a (hx x (by simp)) h0 h1, Option.bind_some, ev_ite, ev_some]
    rw [show lplIn (x :: t) = x.f2.length + lplIn t from rfl]
    by_cases h2 : (x.f2.length : Int) > a
    · simp only [h2, if_true, show ((-1 : Int) < 0) = True from eq_true (by decide)]
      rw [if_pos (by omega)]
    · simp only [h2, if_false, show (a - (x.f2.length : Int) < 0) = False from eq_false (by omega)]
      have := ih (p ++ [x]) (a - (x.f2.length : Int)) (by rwa [← c_app]) (fun y hy => hx y (by simp [hy])) (by omega) (by omega)
      rw [← c_app] at this
      have e : (if (lplIn t : Int) > a - (x.f2.length : Int) then (-1 : Int) else a - (x.f2.length : Int) - (lplIn t : Int)) = (if ((x.f2.length + lplIn t : Nat) : Int) > a then -1 else a - ((x.f2.length + lplIn t : Nat) : Int)) := by
        split <;> split <;> omega
      rw [← e]; exact this
theorem laws_szPlaceS_ev (l : List S141) (a : Int) (h : l.length ≤ maxLen ∧ ∀ x ∈ l, x.f2.length ≤ maxLen) (h0 : 0 ≤ a) (h1 : a ≤ 1048576) : Ev (fun k => laws_szPlaceS.f k l a) (if (lplSize l : Int) > a then -1 else a - (lplSize l : Int)) := by
  have hm := h.1
  unfold maxLen at hm
  have e := lplIn_eq l
  unfold laws_szPlaceS.f
  rw [w64 (n := a - (l.length : Int)) (by omega) (by omega)]
  simp only [ev_ite, ev_some]
  by_cases h2 : a - (l.length : Int) < 0
  · rw [if_pos h2, if_pos (by omega)]
  · rw [if_neg h2]
    have := laws_szPlaceS_loop l [] (a - (l.length : Int)) (by simp; omega) h.2 (by omega) (by omega)
    have e2 : (if (lplIn l : Int) > a - (l.length : Int) then (-1 : Int) else a - (l.length : Int) - (lplIn l : Int)) = (if (lplSize l : Int) > a then -1 else a - (lplSize l : Int)) := by
      split <;> split <;> omega
    rw [← e2]; exact this

end Go.Proofs.Ytnoklicihomfoaa.Pure
