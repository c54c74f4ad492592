/- What functions of the program answer, as plain functions: used by the laws of this claim. -/
import Derived.Test.YtpohlcjkabojcaaB0
import Derived.Test.YtpohlcjkabojcaaF6
namespace Go.Proofs.Ytpohlcjkabojcaa.Pure
open Go.RowKit Go.Proofs.Ytpohlcjkabojcaa.P Go.Proofs.YtpohlcjkabojcaaW.PrintWords Go.Proofs.Ytpohlcjkabojcaa.Q
set_option linter.unusedVariables false
set_option linter.unusedSimpArgs false

theorem slices_Index_int_int_loop (x1 : Int) (t : List Int) : ∀ p : List Int, (p ++ t).length ≤ 9223372036854775806 → Ev (fun k => slices_Index_int_int.l0 k (p ++ t) x1 ((p ++ t).length : Int) (p.length : Int)) (idxFrom x1 p.length t) := by
  induction t with
  | nil =>
    intro p _
    refine ev_succ.1 ?_
    simp only [slices_Index_int_int.l0, c_end, Int.lt_irrefl, if_false, ev_some, idxFrom]
  | cons x t ih =>
    intro p hb
    refine ev_succ.1 ?_
    have hn := ih (p ++ [x]) (by rwa [← c_app])
    rw [← c_app] at hn
    simp only [slices_Index_int_int.l0, c_lt, c_nn, c_rd, c_next p x t hb, if_true, ev_ite, ev_some, idxFrom]
    by_cases h : x1 = x
    · simp [h]
    · simpa [h] using hn
theorem slices_Index_int_int_ev (l : List Int) (x : Int) (h : l.length ≤ 9223372036854775806) : Ev (fun k => slices_Index_int_int.f k l x) (idxFrom x 0 l) := slices_Index_int_int_loop x l [] h

theorem slices_Contains_int_int_ev (l : List Int) (x : Int) (h : l.length ≤ 9223372036854775806) : Ev (fun k => slices_Contains_int_int.f k l x) (hasB x l) := by
  unfold slices_Contains_int_int.f
  simp only [ev_bind (slices_Index_int_int_ev l x h), ev_some]
  exact idxFrom_has x l 0

theorem impl_without_loop (cut : List Int) (hc : cut.length ≤ 1000000000) (t : List S86) : ∀ (p o : List S86), (p ++ t).length ≤ 1000000000 → o.length ≤ p.length → Ev (fun k => impl_without.l0 k cut o (p ++ t) ((p ++ t).length : Int) (p.length : Int)) (o ++ dropFrom cut p.length t) := by
  induction t with
  | nil =>
    intro p o _ _
    refine ev_succ.1 ?_
    simp only [impl_without.l0, c_end, Int.lt_irrefl, if_false, ev_some, dropFrom, List.append_nil]
  | cons x t ih =>
    intro p o hb ho
    have hpl : p.length ≤ 1000000000 := by simp at hb; omega
    refine ev_succ.1 ?_
    simp only [impl_without.l0, c_lt, c_nn, rdE_at, etaE, c_next p x t (by omega), if_true, ev_ite, ev_bind (slices_Contains_int_int_ev cut (p.length : Int) (by omega)), show (o.length < 5864062014805) = True from eq_true (by omega), dropFrom]
    have h0 := ih (p ++ [x]) o (by rwa [← c_app]) (by simp; omega)
    have h1 := ih (p ++ [x]) (o ++ [x]) (by rwa [← c_app]) (by simp; omega)
    rw [← c_app] at h0 h1
    cases hasB (p.length : Int) cut
    · simpa using h1
    · simpa using h0
theorem impl_without_ev (l : List S86) (cut : List Int) (hb : l.length ≤ 1000000000) (hc : cut.length ≤ 1000000000) : Ev (fun k => impl_without.f k l cut) (dropFrom cut 0 l) := by
  simpa [impl_without.f] using impl_without_loop cut hc l [] [] hb (by simp)

theorem impl_Campus_up_ev (n : Int) (l : List S86) (d : List Int) (h : List S130) (hl : l.length ≤ 1000000000) (hd : d.length ≤ 1000000000) : Ev (fun k => impl_Campus_up.f k n l d h) (dropFrom d 0 l) := by
  unfold impl_Campus_up.f
  simp only [ev_bind (impl_without_ev l d hl hd), ev_some]


theorem laws_eqEdgeS_loop (t : List S86) : ∀ p : List S86, (p ++ t).length ≤ 9223372036854775806 → Ev (fun k => laws_eqEdgeS.l0 k (p ++ t) (p ++ t) (p.length : Int)) true := by
  induction t with
  | nil =>
    intro p _
    refine ev_succ.1 ?_
    simp only [laws_eqEdgeS.l0, c_end, Int.lt_irrefl, if_false, ev_some]
  | cons x t ih =>
    intro p hb
    refine ev_succ.1 ?_
    simp only [laws_eqEdgeS.l0, laws_eqEdge.f, Option.bind_some, c_lt, c_nn, c_next _ _ _ hb, if_true]
    rw [c_app p x t]
    exact ih (p ++ [x]) (by rwa [← c_app])
theorem laws_eqEdgeS_ev (l : List S86) (h : l.length ≤ 9223372036854775806) : Ev (fun k => laws_eqEdgeS.f k l l) true := by
  unfold laws_eqEdgeS.f
  simp only [if_true]
  exact laws_eqEdgeS_loop l [] h

theorem laws_eqIntS_loop (t : List Int) : ∀ p : List Int, (p ++ t).length ≤ 9223372036854775806 → Ev (fun k => laws_eqIntS.l0 k (p ++ t) (p ++ t) (p.length : Int)) true := by
  induction t with
  | nil =>
    intro p _
    refine ev_succ.1 ?_
    simp only [laws_eqIntS.l0, c_end, Int.lt_irrefl, if_false, ev_some]
  | cons x t ih =>
    intro p hb
    refine ev_succ.1 ?_
    simp only [laws_eqIntS.l0, c_lt, c_nn, c_next _ _ _ hb, if_true]
    rw [c_app p x t]
    exact ih (p ++ [x]) (by rwa [← c_app])
theorem laws_eqIntS_ev (l : List Int) (h : l.length ≤ 9223372036854775806) : Ev (fun k => laws_eqIntS.f k l l) true := by
  unfold laws_eqIntS.f
  simp only [if_true]
  exact laws_eqIntS_loop l [] h

theorem laws_eqPlace_ev (x y : Int) (l : List Int) (h : l.length ≤ 9223372036854775806) : Ev (fun k => laws_eqPlace.f k x y l x y l) true := by
  unfold laws_eqPlace.f
  simp only [if_true, ev_bind (laws_eqIntS_ev l h), ev_some]

theorem laws_eqPlaceS_loop (t : List S130) : ∀ p : List S130, (p ++ t).length ≤ 9223372036854775806 → (∀ x ∈ t, x.f2.length ≤ 9223372036854775806) → Ev (fun k => laws_eqPlaceS.l0 k (p ++ t) (p ++ t) (p.length : Int)) true := by
  induction t with
  | nil =>
    intro p _ _
    refine ev_succ.1 ?_
    simp only [laws_eqPlaceS.l0, c_end, Int.lt_irrefl, if_false, ev_some]
  | cons x t ih =>
    intro p hb hx
    refine ev_succ.1 ?_
    simp only [laws_eqPlaceS.l0, c_lt, c_nn, rdPlace_at, ev_bind (laws_eqPlace_ev x.f0 x.f1 x.f2 (hx x (by simp))), c_next _ _ _ hb, if_true]
    rw [c_app p x t]
    exact ih (p ++ [x]) (by rwa [← c_app]) (fun y hy => hx y (by simp [hy]))
theorem laws_eqPlaceS_ev (l : List S130) (h : plSize l ≤ 4611686018427387904) : Ev (fun k => laws_eqPlaceS.f k l l) true := by
  have h2 := plSize_mem l _ h
  unfold laws_eqPlaceS.f
  simp only [if_true]
  exact laws_eqPlaceS_loop l [] (by simp; omega) (fun x hx => by have := h2.2 x hx; omega)

end Go.Proofs.Ytpohlcjkabojcaa.Pure
