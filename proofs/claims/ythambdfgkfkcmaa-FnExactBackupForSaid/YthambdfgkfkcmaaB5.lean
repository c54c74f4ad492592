/- What functions of the program answer, as plain functions: used by the laws of this claim. -/
import Derived.Test.YthambdfgkfkcmaaB0
import Derived.Test.YthambdfgkfkcmaaF5
import Derived.Test.YthambdfgkfkcmaaB4
import Derived.Test.YthambdfgkfkcmaaQFlow
import Derived.Test.YthambdfgkfkcmaaQGraph
namespace Go.Proofs.Ythambdfgkfkcmaa.Pure
open Go.RowKit Go.Proofs.Ythambdfgkfkcmaa.P Go.Proofs.YthambdfgkfkcmaaW.PrintWords Go.Proofs.Ythambdfgkfkcmaa.Q
set_option linter.unusedVariables false
set_option linter.unusedSimpArgs false

theorem impl_flow_search_in (n : Nat) (l : List S47) (u : List Int) (s x : Int) (hs : s = (n : Int)) (hl : l.length ≤ 1000000) (hn : n ≤ 1000) (hu : u.length = (ends l).length) (x0 : 0 ≤ x) (x1 : x < (n : Int)) (R : List Int × Int) : ∀ (d i : Nat) (out q : List Int), i + d = n → out.length = n → 0 ≤ rd out x → q.length + d ≤ 1000000 → Ev (fun k => impl_flow_search.l1 k (bfsIn (openB (ends l) u x) x (fromI i d) (out, q)).1 (bfsIn (openB (ends l) u x) x (fromI i d) (out, q)).2 s l u) R → Ev (fun k => impl_flow_search.l2 k out (x :: q) (n : Int) (i : Int) s l u) R := by
  intro d
  induction d with
  | zero =>
    intro i out q hi _ _ _ h
    obtain rfl : i = n := by omega
    refine ev_succ.1 ?_
    simp only [impl_flow_search.l2, Int.lt_irrefl, if_false, List.length_cons, show ((1 : Int) ≤ ((q.length + 1 : Nat) : Int)) = True from eq_true (by omega), if_true, show (1 : Int).toNat = 1 from rfl, List.drop_succ_cons, List.drop_zero]
    exact h
  | succ d ih =>
    intro i out q hi ho hx hq h
    have hw : wrap64 ((i : Int) + 1) = ((i + 1 : Nat) : Int) := by clear h; rw [w64 (by omega) (by omega)]; omega
    have f1 : ((i : Int) < (n : Int)) = True := by clear h hw hx; exact eq_true (by omega)
    have f2 : (0 ≤ (i : Int)) = True := eq_true (Int.natCast_nonneg i)
    have f3 : ((i : Int) < (out.length : Int)) = True := by clear h hw hx; exact eq_true (by omega)
    have f4 : ((0 : Int) < ((q.length + 1 : Nat) : Int)) = True := by clear h hw hx; exact eq_true (by omega)
    have f5 : (q.length + 1 < 17592186044416) = True := by clear h hw hx; exact eq_true (by omega)
    have hr : rd (x :: q) 0 = x := rfl
    refine ev_succ.1 ?_
    simp only [impl_flow_search.l2, f1, f2, f3, f4, if_true, List.length_cons, hr, hw, ev_ite]
    clear hr hw f1 f2 f3 f4
    unfold fromI bfsIn at h
    by_cases h1 : rd out (i : Int) < 0
    · rw [if_pos h1]
      have hxi : x ≠ (i : Int) := fun e => by rw [e] at hx; omega
      rw [ev_bind (impl_flow_open_ev s l u x (i : Int) hxi hl hu)]
      cases h2 : openB (ends l) u x (i : Int)
      · simp only [h1, h2, Bool.false_eq_true, and_false, if_false] at h ⊢
        exact ih (i + 1) out q (by omega) ho hx (by omega) h
      · simp only [h1, h2, and_self, if_true, f5] at h ⊢
        have hrs : rd (out.set (i : Int).toNat x) x = rd out x := by
          rw [rd_set (by omega) (by omega) x0, if_neg hxi]
        exact ih (i + 1) (out.set (i : Int).toNat x) (q ++ [(i : Int)]) (by omega) (by simpa using ho) (by rw [hrs]; exact hx) (by simp; omega) h
    · rw [if_neg h1]
      simp only [h1, false_and, if_false] at h
      exact ih (i + 1) out q (by omega) ho hx (by omega) h
theorem impl_flow_search_out (n : Nat) (l : List S47) (u : List Int) (hl : l.length ≤ 1000000) (hn : n ≤ 1000) (hu : u.length = (ends l).length) (a : Int) (a0 : 0 ≤ a) : ∀ (f : Nat) (out q : List Int) (rank : Int → Nat), Inv (openB (ends l) u) n a out rank → Wait n out q → unv n out + q.length ≤ f → f ≤ 1000 → Ev (fun k => impl_flow_search.l1 k out q (n : Int) l u) (bfs (openB (ends l) u) n f out q, (n : Int)) := by
  intro f
  induction f with
  | zero =>
    intro out q rank _ _ hq _
    obtain rfl : q = [] := List.length_eq_zero_iff.1 (by omega)
    refine ev_succ.1 ?_
    simp only [impl_flow_search.l1, List.length_nil, show (((0 : Nat) : Int) > 0) = False from eq_false (by omega), if_false, ev_some, bfs]
  | succ f ih =>
    intro out q rank hi hw hq hf
    match q with
    | [] =>
      refine ev_succ.1 ?_
      simp only [impl_flow_search.l1, List.length_nil, show (((0 : Nat) : Int) > 0) = False from eq_false (by omega), if_false, ev_some, bfs]
    | x :: q =>
      obtain ⟨hx, hx2⟩ := hw x (by simp)
      simp only [List.length_cons] at hq
      obtain ⟨⟨rank', h1⟩, h2, h3⟩ := bfsIn_inv a0 hx.1 hx.2 (upto n) out q rank (fun k hk => upto_mem.1 hk) hi hx2 (fun v hv => hw v (by simp [hv]))
      refine ev_succ.1 ?_
      simp only [impl_flow_search.l1, List.length_cons, show (((q.length + 1 : Nat) : Int) > 0) = True from eq_true (by omega), if_true, bfs]
      refine impl_flow_search_in n l u (n : Int) x rfl hl hn hu hx.1 hx.2 _ n 0 out q (by omega) hi.len hx2 (by omega) ?_
      rw [← upto_from]
      exact ih _ _ rank' h1 h2 (by omega) (by omega)
theorem impl_flow_search_fill (n : Nat) (l : List S47) (u : List Int) (hl : l.length ≤ 1000000) (hn : n ≤ 1000) (hu : u.length = (ends l).length) (a : Int) (a0 : 0 ≤ a) (a1 : a < (n : Int)) : ∀ (d i : Nat), i + d = n → Ev (fun k => impl_flow_search.l0 k a (List.replicate i (-1) ++ List.replicate d 0) (n : Int) (i : Int) (n : Int) l u) (searchV (ends l) n u a, (n : Int)) := by
  intro d
  induction d with
  | zero =>
    intro i hi
    obtain rfl : i = n := by omega
    have hun := only_unv a0 a1
    refine ev_succ.1 ?_
    simp only [impl_flow_search.l0, Int.lt_irrefl, if_false, List.replicate_zero, List.append_nil, List.length_replicate, show (0 ≤ a) = True from eq_true a0, show (a < (i : Int)) = True from eq_true a1, if_true]
    exact impl_flow_search_out i l u hl hn hu a a0 i (only i a) [a] _ (only_inv _ a0 a1) (only_wait a0 a1) hun hn
  | succ d ih =>
    intro i hi
    refine ev_succ.1 ?_
    have e : (List.replicate i (-1 : Int) ++ List.replicate (d + 1) 0).set i (-1) = List.replicate (i + 1) (-1) ++ List.replicate d 0 := by
      rw [List.set_append_right _ _ (by simp)]
      simp only [List.length_replicate, Nat.sub_self, List.replicate_succ (n := d), List.set_cons_zero]
      rw [List.replicate_succ' (n := i)]; simp
    simp only [impl_flow_search.l0, show ((i : Int) < (n : Int)) = True from eq_true (by omega), if_true, List.length_append, List.length_replicate, show (0 ≤ (i : Int)) = True from eq_true (by omega), show ((i : Int) < ((i + (d + 1) : Nat) : Int)) = True from eq_true (by omega), w64 (n := (i : Int) + 1) (by omega) (by omega), Int.toNat_natCast, e]
    exact ih (i + 1) (by omega)
theorem impl_flow_search_ev (n : Nat) (l : List S47) (u : List Int) (hl : l.length ≤ 1000000) (hn : n ≤ 1000) (hu : u.length = (ends l).length) (a : Int) (a0 : 0 ≤ a) (a1 : a < (n : Int)) : Ev (fun k => impl_flow_search.f k (n : Int) l u a) (searchV (ends l) n u a, (n : Int)) := by
  have := impl_flow_search_fill n l u hl hn hu a a0 a1 n 0 (by omega)
  unfold impl_flow_search.f
  simp only [show (0 ≤ (n : Int)) = True from eq_true (by omega), if_true, Int.toNat_natCast, show (n ≤ 35184372088832) = True from eq_true (by omega), Option.bind_some, List.length_replicate]
  simpa using this

theorem upd_bound {ab : List (Int × Int)} {u : List Int} {B : Int} (hl : u.length = ab.length) (hb : ∀ i : Int, 0 ≤ i → i < (u.length : Int) → -B ≤ rd u i ∧ rd u i ≤ B) {j : Nat} (hj : j < ab.length) {d : Int} (hd : d = 1 ∨ d = -1) : ∀ i : Int, 0 ≤ i → i < ((u.set j (rd u (j : Int) + d)).length : Int) → -(B + 1) ≤ rd (u.set j (rd u (j : Int) + d)) i ∧ rd (u.set j (rd u (j : Int) + d)) i ≤ B + 1 := by
  intro i i0 i1
  rw [List.length_set] at i1
  have := rd_set (g := u) (i := (j : Int)) (x := rd u (j : Int) + d) (j := i) (by omega) (by omega) i0
  rw [Int.toNat_natCast] at this
  rw [this]
  have h1 := hb (j : Int) (by omega) (by omega)
  have h2 := hb i i0 i1
  split <;> omega
theorem impl_flow_fill_way (n : Nat) (l : List S47) (a b : Int) (hl : l.length ≤ 1000000) (by_ u0 : List Int) (rank : Int → Nat) (hi : Inv (openB (ends l) u0) n a by_ rank) (R : Int × List Int) : ∀ (f : Nat) (v : Int) (u : List Int) (B : Int), rank v < f → 0 ≤ v → v < (n : Int) → 0 ≤ rd by_ v → u.length = (ends l).length → (∀ i : Int, 0 ≤ i → i < (u.length : Int) → -B ≤ rd u i ∧ rd u i ≤ B) → 0 ≤ B → B + f ≤ 100000 →
    Ev (fun k => impl_flow_fill.l0 k a b (n : Int) l (aug (ends l) by_ a f v u)) R → Ev (fun k => impl_flow_fill.l1 k a b by_ v (n : Int) l u) R := by
  intro f
  induction f with
  | zero => intro v u B h; exact absurd h (by omega)
  | succ f ih =>
    intro v u B hf v0 v1 hv hul hB B0 hBf h
    have hby := hi.len
    unfold aug at h
    by_cases hva : v = a
    · rw [if_pos hva] at h
      refine ev_succ.1 ?_
      simp only [impl_flow_fill.l1, if_pos hva]
      exact h
    · rw [if_neg hva] at h
      obtain ⟨t1, t2, t3⟩ := hi.tree v v0 v1 hva hv
      have hr := (hi.rng v v0 v1).resolve_left (by omega)
      generalize hpe : rd by_ v = p at t1 t2 t3 hr h
      have hpv : p ≠ v := fun e => by rw [e] at t2; omega
      unfold openB at t3
      rw [Bool.and_eq_true, decide_eq_true_eq] at t3
      have key : ∀ (j : Nat) (hj : j < (ends l).length) (d : Int), (d = 1 ∨ d = -1) → edgeFrom p v 0 (ends l) = ((j : Int), d) → Ev (fun k => impl_flow_fill.l1 k a b by_ v (n : Int) l u) R := by
        intro j hj d hd he
        have hbj := hB (j : Int) (by omega) (by omega)
        have hu' : upd (ends l) u p v = u.set j (rd u (j : Int) + d) := by unfold upd; rw [he]; simp
        rw [hu'] at h
        have hw : wrap64 (rd u (j : Int) + d) = rd u (j : Int) + d := w64 (by omega) (by omega)
        refine ev_succ.1 ?_
        simp only [impl_flow_fill.l1, if_neg hva, show (0 ≤ v) = True from eq_true v0, show (v < (by_.length : Int)) = True from eq_true (by omega), if_true, hpe, ev_bind (impl_flow_edge_ev (n : Int) l u p v (by omega)), he, show (0 ≤ (j : Int)) = True from eq_true (by omega), show ((j : Int) < (u.length : Int)) = True from eq_true (by omega), hw, Int.toNat_natCast]
        exact ih p (u.set j (rd u (j : Int) + d)) (B + 1) (by omega) hr.1 hr.2 t1 (by simpa using hul) (upd_bound hul hB hj hd) (by omega) (by omega) h
      rcases edgeFrom_cases hpv (ends l) 0 with e | ⟨j, hj, e⟩
      · rw [e] at t3; simp at t3
      · rcases e with ⟨e, _⟩ | ⟨e, _⟩ <;> rw [Nat.zero_add] at e
        · exact key j hj 1 (Or.inl rfl) e
        · exact key j hj (-1) (Or.inr rfl) e
theorem impl_flow_fill_loop (n : Nat) (l : List S47) (a b : Int) (hl : l.length ≤ 1000000) (hn : n ≤ 1000) (a0 : 0 ≤ a) (a1 : a < (n : Int)) (b0 : 0 ≤ b) (b1 : b < (n : Int)) (hab : b ≠ a) : ∀ (f : Nat) (u : List Int), Unit1 (ends l) u → ((ends l).length : Int) - outOf a (ends l) u < f → Ev (fun k => impl_flow_fill.l0 k a b (n : Int) l u) ((n : Int), fill (ends l) n a b f u) := by
  intro f
  induction f with
  | zero =>
    intro u hu h
    have := outOf_le a (ends l) u (unit_all hu)
    omega
  | succ f ih =>
    intro u hu h
    obtain ⟨rk, hrk⟩ := searchV_inv (ends l) u a0 a1
    have hlen := hrk.len
    refine ev_succ.1 ?_
    simp only [impl_flow_fill.l0, ev_bind (impl_flow_search_ev n l u hl hn hu.1 a a0 a1), show (0 ≤ b) = True from eq_true b0, show (b < ((searchV (ends l) n u a).length : Int)) = True from eq_true (by omega), if_true, fill]
    by_cases hb : rd (searchV (ends l) n u a) b < 0
    · simp only [if_pos hb, ev_some]
    · simp only [if_neg hb]
      obtain ⟨⟨rank, hi, hr⟩, h1, h2⟩ := aug_fill a0 a1 b0 b1 hab hu (by omega)
      refine impl_flow_fill_way n l a b hl (searchV (ends l) n u a) u rank hi _ n b u 1 hr b0 b1 (by omega) hu.1 (fun i i0 i1 => hu.2 i i0 (by have := hu.1; omega)) (by omega) (by omega) ?_
      exact ih _ h1 (by omega)
theorem impl_flow_fill_ev (n : Nat) (l : List S47) (a b : Int) (hl : l.length ≤ 1000000) (hn : n ≤ 1000) (a0 : 0 ≤ a) (a1 : a < (n : Int)) (b0 : 0 ≤ b) (b1 : b < (n : Int)) (hab : b ≠ a) : Ev (fun k => impl_flow_fill.f k (n : Int) l (List.replicate (ends l).length 0) a b) ((n : Int), flowV (ends l) n a b) := by
  refine impl_flow_fill_loop n l a b hl hn a0 a1 b0 b1 hab _ _ (unit_zero _) ?_
  rw [outOf_zero]; omega

theorem impl_flowOf_ev (n : Nat) (l : List S47) (a b : Int) (hl : l.length ≤ 1000000) (hn : n ≤ 1000) (a0 : 0 ≤ a) (a1 : a < (n : Int)) (b0 : 0 ≤ b) (b1 : b < (n : Int)) (hab : b ≠ a) : Ev (fun k => impl_flowOf.f k (n : Int) l a b) ((n : Int), l, flowV (ends l) n a b) := by
  have h := impl_flow_fill_ev n l a b hl hn a0 a1 b0 b1 hab
  rw [show (ends l).length = l.length from by simp [ends]] at h
  unfold impl_flowOf.f
  simp only [show (0 ≤ (l.length : Int)) = True from eq_true (by omega), Int.toNat_natCast, show (l.length ≤ 35184372088832) = True from eq_true (by omega), if_true, ev_bind h, ev_some]

end Go.Proofs.Ythambdfgkfkcmaa.Pure
