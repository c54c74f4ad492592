/- What functions of the program answer, as plain functions: used by the laws of this claim. -/
import Derived.Test.YthambdfgkfkcmaaB0
import Derived.Test.YthambdfgkfkcmaaF3
import Derived.Test.YthambdfgkfkcmaaB2
import Derived.Test.YthambdfgkfkcmaaQFlow
import Derived.Test.YthambdfgkfkcmaaQGraph
import Derived.Test.YthambdfgkfkcmaaQShort
import Derived.Test.YthambdfgkfkcmaaQWay
namespace Go.Proofs.Ythambdfgkfkcmaa.Pure
open Go.RowKit Go.Proofs.Ythambdfgkfkcmaa.P Go.Proofs.YthambdfgkfkcmaaW.PrintWords Go.Proofs.Ythambdfgkfkcmaa.Q
set_option linter.unusedVariables false
set_option linter.unusedSimpArgs false

theorem spec_bound {ab : List (Int × Int)} {u : List Int} {B : Int} (hl : u.length = ab.length) (hb : ∀ i : Int, 0 ≤ i → i < (u.length : Int) → -B ≤ rd u i ∧ rd u i ≤ B) {j : Nat} (hj : j < ab.length) {d : Int} (hd : d = 1 ∨ d = -1) : ∀ i : Int, 0 ≤ i → i < ((u.set j (rd u (j : Int) + d)).length : Int) → -(B + 1) ≤ rd (u.set j (rd u (j : Int) + d)) i ∧ rd (u.set j (rd u (j : Int) + d)) i ≤ B + 1 := by
  intro i i0 i1
  rw [List.length_set] at i1
  have := rd_set (g := u) (i := (j : Int)) (x := rd u (j : Int) + d) (j := i) (by omega) (by omega) i0
  rw [Int.toNat_natCast] at this
  rw [this]
  have h1 := hb (j : Int) (by omega) (by omega)
  have h2 := hb i i0 i1
  split <;> omega
theorem spec_l15Flow_way (n : Nat) (l : List S47) (a b : Int) (hl : l.length ≤ 1000000) (a0 : 0 ≤ a) (by_ u0 : List Int) (rank : Int → Nat) (hi : Inv (openB (ends l) u0) n a by_ rank) (a1 : a < (n : Int)) (R : List Int) : ∀ (f : Nat) (v : Int) (u : List Int) (B : Int), rank v < f → 0 ≤ v → v < (n : Int) → 0 ≤ rd by_ v → u.length = (ends l).length → (∀ i : Int, 0 ≤ i → i < (u.length : Int) → -B ≤ rd u i ∧ rd u i ≤ B) → 0 ≤ B → B + f ≤ 100000 →
    Ev (fun k => spec_l15Flow.l0 k (n : Int) l a b (aug (ends l) by_ a f v u)) R → Ev (fun k => spec_l15Flow.l1 k (n : Int) l a b u (by_.set a.toNat (-2)) v) R := by
  intro f
  induction f with
  | zero => intro v u B h; exact absurd h (by omega)
  | succ f ih =>
    intro v u B hf v0 v1 hv hul hB B0 hBf h
    have hby := hi.len
    have hel := ends_length l
    unfold aug at h
    by_cases hva : v = a
    · rw [if_pos hva] at h
      refine ev_succ.1 ?_
      simp only [spec_l15Flow.l1, if_pos hva]
      exact h
    · rw [if_neg hva] at h
      obtain ⟨t1, t2, t3⟩ := hi.tree v v0 v1 hva hv
      have hr := (hi.rng v v0 v1).resolve_left (by omega)
      have hset : rd (by_.set a.toNat (-2)) v = rd by_ v := by rw [rd_set a0 (by omega) v0, if_neg hva]
      generalize hpe : rd by_ v = p at t1 t2 t3 hr h hset
      have hpv : p ≠ v := fun e => by rw [e] at t2; omega
      unfold openB at t3
      rw [Bool.and_eq_true, decide_eq_true_eq] at t3
      have key : ∀ (j : Nat) (hj : j < (ends l).length) (d : Int), (((ends l)[j]).1 = p ∧ d = 1 ∨ ((ends l)[j]).1 = v ∧ d = -1) → edgeFrom p v 0 (ends l) = ((j : Int), d) → Ev (fun k => spec_l15Flow.l1 k (n : Int) l a b u (by_.set a.toNat (-2)) v) R := by
        intro j hj d hd he
        have hbj := hB (j : Int) (by omega) (by omega)
        have hd2 : d = 1 ∨ d = -1 := hd.imp (fun h => h.2) (fun h => h.2)
        have hu' : upd (ends l) u p v = u.set j (rd u (j : Int) + d) := by unfold upd; rw [he]; simp
        rw [hu'] at h
        have hnum : numFrom p v 0 (ends l) = (j : Int) := by rw [← edgeFrom_num, he]
        have hnx := ih p (u.set j (rd u (j : Int) + d)) (B + 1) (by omega) hr.1 hr.2 t1 (by simpa using hul) (spec_bound hul hB hj hd2) (by omega) (by omega) h
        refine ev_succ.1 ?_
        simp only [spec_l15Flow.l1, if_neg hva, List.length_set, show (0 ≤ v) = True from eq_true v0, show (v < (by_.length : Int)) = True from eq_true (by omega), if_true, hset, ev_bind (spec_l15Number_ev l p v (by omega)), hnum, show (0 ≤ (j : Int)) = True from eq_true (by omega), show ((j : Int) < (l.length : Int)) = True from eq_true (by omega), show ((j : Int) < (u.length : Int)) = True from eq_true (by omega), rdE_ends l hj, Int.toNat_natCast, ev_ite]
        rcases hd with ⟨e1, e2⟩ | ⟨e1, e2⟩
        · subst e2
          rw [if_pos e1, w64 (n := rd u (j : Int) + 1) (by omega) (by omega)]
          exact hnx
        · subst e2
          rw [if_neg (by rw [e1]; exact fun e => hpv e.symm), w64 (n := rd u (j : Int) - 1) (by omega) (by omega)]
          exact hnx
      rcases edgeFrom_cases hpv (ends l) 0 with e | ⟨j, hj, e⟩
      · rw [e] at t3; simp at t3
      · rcases e with ⟨e, e3⟩ | ⟨e, e3⟩ <;> rw [Nat.zero_add] at e
        · exact key j hj 1 (Or.inl ⟨by rw [e3], rfl⟩) e
        · exact key j hj (-1) (Or.inr ⟨by rw [e3], rfl⟩) e
theorem spec_l15Flow_loop (n : Nat) (l : List S47) (a b : Int) (hl : l.length ≤ 1000000) (hn : n ≤ 1000) (hx3 : In3 n (l.map trip)) (ho : Once (l.map trip)) (a0 : 0 ≤ a) (a1 : a < (n : Int)) (b0 : 0 ≤ b) (b1 : b < (n : Int)) (hab : b ≠ a) : ∀ (f : Nat) (u : List Int), Unit1 (ends l) u → ((ends l).length : Int) - outOf a (ends l) u < f → Ev (fun k => spec_l15Flow.l0 k (n : Int) l a b u) (fill (ends l) n a b f u) := by
  intro f
  induction f with
  | zero =>
    intro u hu h
    have := outOf_le a (ends l) u (unit_all hu)
    omega
  | succ f ih =>
    intro u hu h
    obtain ⟨rk, hrk⟩ := searchV_inv (ends l) u a0 a1
    have hlen := hrk.len
    have hset : rd ((searchV (ends l) n u a).set a.toNat (-2)) b = rd (searchV (ends l) n u a) b := by rw [rd_set a0 (by omega) b0, if_neg hab]
    have hrng := hrk.rng b b0 b1
    refine ev_succ.1 ?_
    simp only [spec_l15Flow.l0, ev_bind (spec_l15Reach_ev n l u hl hn hx3 ho hu a a0 a1), List.length_set, show (0 ≤ b) = True from eq_true b0, show (b < ((searchV (ends l) n u a).length : Int)) = True from eq_true (by omega), if_true, hset, fill]
    by_cases hb : rd (searchV (ends l) n u a) b < 0
    · rw [if_pos hb]
      simp only [show (rd (searchV (ends l) n u a) b = -1) = True from eq_true (by omega), if_true, ev_some]
    · rw [if_neg hb]
      simp only [show (rd (searchV (ends l) n u a) b = -1) = False from eq_false (by omega), if_false]
      obtain ⟨⟨rank, hi, hr⟩, h1, h2⟩ := aug_fill a0 a1 b0 b1 hab hu (by omega)
      refine spec_l15Flow_way n l a b hl a0 (searchV (ends l) n u a) u rank hi a1 _ n b u 1 hr b0 b1 (by omega) hu.1 (fun i i0 i1 => hu.2 i i0 (by have := hu.1; omega)) (by omega) (by omega) ?_
      exact ih _ h1 (by omega)
theorem spec_l15Flow_ev (n : Nat) (l : List S47) (a b : Int) (hl : l.length ≤ 1000000) (hn : n ≤ 1000) (hx3 : In3 n (l.map trip)) (ho : Once (l.map trip)) (a0 : 0 ≤ a) (a1 : a < (n : Int)) (b0 : 0 ≤ b) (b1 : b < (n : Int)) (hab : b ≠ a) : Ev (fun k => spec_l15Flow.f k (n : Int) l a b) (flowV (ends l) n a b) := by
  have h := spec_l15Flow_loop n l a b hl hn hx3 ho a0 a1 b0 b1 hab ((ends l).length + 1) _ (unit_zero (ends l)) (by rw [outOf_zero]; omega)
  have hel := ends_length l
  unfold spec_l15Flow.f flowV
  rw [hel] at h ⊢
  simp only [show (0 ≤ (l.length : Int)) = True from eq_true (by omega), Int.toNat_natCast, show (l.length ≤ 35184372088832) = True from eq_true (by omega), if_true]
  exact h


theorem laws_toEdgeS_loop (t : List S69) : ∀ (p : List S69), (p ++ t).length ≤ 9223372036854775806 → Ev (fun k => laws_toEdgeS.l0 k (p ++ t) (p.map toE ++ List.replicate t.length z47) (p.length : Int)) ((p ++ t).map toE) := by
  induction t with
  | nil =>
    intro p _
    refine ev_succ.1 ?_
    simp only [laws_toEdgeS.l0, c_end, Int.lt_irrefl, if_false, ev_some, List.length_nil, List.replicate_zero, List.append_nil]
  | cons x t ih =>
    intro p hb
    refine ev_succ.1 ?_
    have e : p.map toE ++ List.replicate (x :: t).length z47 = p.map toE ++ z47 :: List.replicate t.length z47 := rfl
    have e2 : (p.length : Int) = ((p.map toE).length : Int) := by simp
    have e3 : (p.length : Int) < ((p.map toE ++ z47 :: List.replicate t.length z47).length : Int) := by simp; omega
    have e4 : ∀ y, (p.map toE ++ z47 :: List.replicate t.length z47).set ((p.length : Int)).toNat y = (p.map toE ++ [y]) ++ List.replicate t.length z47 := by intro y; rw [e2]; exact c_set _ _ _ _
    simp only [laws_toEdgeS.l0, laws_toEdge.f, e, e3, e4, c_lt, c_nn, rdLE_at, c_next _ _ _ hb, if_true, Option.bind_some]
    have := ih (p ++ [x]) (by rwa [← c_app])
    rw [← c_app, List.map_append] at this
    exact this
theorem laws_toEdgeS_ev (l : List S69) (h : l.length ≤ 11728124029610) : Ev (fun k => laws_toEdgeS.f k l) (l.map toE) := by
  unfold laws_toEdgeS.f
  simp only [Int.toNat_natCast, h, c_nn, if_true]
  exact laws_toEdgeS_loop l [] (by simp; omega)

theorem impl_in_eq (a b c : Int) : impl_in.f a b c = some (inB b c a) := by
  unfold impl_in.f inB
  by_cases h1 : a ≥ b <;> by_cases h2 : a ≤ c <;> simp [h1, h2] <;> omega


theorem impl_isSpots_eq (a : Int) : impl_isSpots.f a = some (inB 1 12 a) := by
  unfold impl_isSpots.f
  rw [impl_in_eq]; rfl

end Go.Proofs.Ythambdfgkfkcmaa.Pure
