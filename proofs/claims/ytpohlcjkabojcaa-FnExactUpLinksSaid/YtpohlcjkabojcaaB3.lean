/- What functions of the program answer, as plain functions: used by the laws of this claim. -/
import Derived.Test.YtpohlcjkabojcaaB0
import Derived.Test.YtpohlcjkabojcaaF3
import Derived.Test.YtpohlcjkabojcaaB2
namespace Go.Proofs.Ytpohlcjkabojcaa.Pure
open Go.RowKit Go.Proofs.Ytpohlcjkabojcaa.P Go.Proofs.YtpohlcjkabojcaaW.PrintWords Go.Proofs.Ytpohlcjkabojcaa.Q
set_option linter.unusedVariables false
set_option linter.unusedSimpArgs false

theorem laws_toPlaceS_loop (t : List S129) : ∀ (p : List S129), (p ++ t).length ≤ 9223372036854775806 → (∀ x ∈ t, x.f2.length ≤ 1048576) → Ev (fun k => laws_toPlaceS.l0 k (p ++ t) (p.map toPl ++ List.replicate t.length z130) (p.length : Int)) ((p ++ t).map toPl) := by
  induction t with
  | nil =>
    intro p _ _
    refine ev_succ.1 ?_
    simp only [laws_toPlaceS.l0, c_end, Int.lt_irrefl, if_false, ev_some, List.length_nil, List.replicate_zero, List.append_nil]
  | cons x t ih =>
    intro p hb hx
    refine ev_succ.1 ?_
    have e : p.map toPl ++ List.replicate (x :: t).length z130 = p.map toPl ++ z130 :: List.replicate t.length z130 := rfl
    have e2 : (p.length : Int) = ((p.map toPl).length : Int) := by simp
    have e3 : (p.length : Int) < ((p.map toPl ++ z130 :: List.replicate t.length z130).length : Int) := by simp; omega
    have e4 : ∀ y, (p.map toPl ++ z130 :: List.replicate t.length z130).set ((p.length : Int)).toNat y = (p.map toPl ++ [y]) ++ List.replicate t.length z130 := by intro y; rw [e2]; exact c_set _ _ _ _
    simp only [laws_toPlaceS.l0, e, c_lt, c_nn, rdLPlace_at, c_next p x t hb, if_true, ev_bind (laws_toPlace_ev x.f0 x.f1 x.f2 (by have := hx x (by simp); omega)), e3, e4]
    have := ih (p ++ [x]) (by rwa [← c_app]) (fun y hy => hx y (by simp [hy]))
    rw [← c_app, List.map_append] at this
    exact this
theorem laws_toPlaceS_ev (l : List S129) (h : lplSize l ≤ 1048576) : Ev (fun k => laws_toPlaceS.f k l) (l.map toPl) := by
  have h1 := lplSize_len l
  have h2 := plSize_mem (l.map toPl) 1048576 (by rw [lplSize_map]; exact h)
  unfold laws_toPlaceS.f
  simp only [Int.toNat_natCast, show (l.length ≤ 7036874417766) = True from eq_true (by omega), c_nn, if_true]
  exact laws_toPlaceS_loop l [] (by simp; omega) (fun x hx => h2.2 (toPl x) (List.mem_map_of_mem hx))

theorem laws_toCampus_ev (n : Int) (l : List S105) (d : List Int) (h : List S129) (hl : l.length ≤ 1048576) (hd : d.length ≤ 1048576) (hh : lplSize h ≤ 1048576) : Ev (fun k => laws_toCampus.f k n l d h) (n, l.map toE, d, h.map toPl) := by
  unfold laws_toCampus.f
  simp only [ev_bind (laws_toEdgeS_ev l (by omega)), ev_bind (laws_toIntS_ev d (by omega)), ev_bind (laws_toPlaceS_ev h hh), ev_some]

theorem impl_in_eq (a b c : Int) : impl_in.f a b c = some (inB b c a) := by
  unfold impl_in.f inB
  by_cases h1 : a ≥ b <;> by_cases h2 : a ≤ c <;> simp [h1, h2] <;> omega


theorem impl_isSpots_eq (a : Int) : impl_isSpots.f a = some (inB 1 12 a) := by
  unfold impl_isSpots.f
  rw [impl_in_eq]; rfl

end Go.Proofs.Ytpohlcjkabojcaa.Pure
