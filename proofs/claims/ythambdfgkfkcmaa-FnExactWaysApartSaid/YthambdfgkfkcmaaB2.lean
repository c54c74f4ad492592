/- What functions of the program answer, as plain functions: used by the laws of this claim. -/
import Derived.Test.YthambdfgkfkcmaaB0
import Derived.Test.YthambdfgkfkcmaaF2
import Derived.Test.YthambdfgkfkcmaaB1
import Derived.Test.YthambdfgkfkcmaaQFlow
import Derived.Test.YthambdfgkfkcmaaQGraph
import Derived.Test.YthambdfgkfkcmaaQShort
import Derived.Test.YthambdfgkfkcmaaQWay
namespace Go.Proofs.Ythambdfgkfkcmaa.Pure
open Go.RowKit Go.Proofs.Ythambdfgkfkcmaa.P Go.Proofs.YthambdfgkfkcmaaW.PrintWords Go.Proofs.Ythambdfgkfkcmaa.Q
set_option linter.unusedVariables false
set_option linter.unusedSimpArgs false

theorem spec_l15Number_loop (a b : Int) (t : List S47) : ∀ p : List S47, (p ++ t).length ≤ 9223372036854775806 → Ev (fun k => spec_l15Number.l0 k a b (p ++ t) ((p ++ t).length : Int) (p.length : Int)) (numFrom a b p.length (ends t)) := by
  induction t with
  | nil =>
    intro p _
    refine ev_succ.1 ?_
    simp only [spec_l15Number.l0, c_end, Int.lt_irrefl, if_false, ev_some]
    rfl
  | cons x t ih =>
    intro p hb
    refine ev_succ.1 ?_
    have hn := ih (p ++ [x]) (by rwa [← c_app])
    rw [← c_app] at hn
    simp only [List.length_append, List.length_cons, List.length_nil, Nat.zero_add] at hn
    simp only [spec_l15Number.l0, c_lt, c_nn, rdE_at, c_next p x t hb, if_true, ev_ite, ev_some, ends, List.map_cons, numFrom]
    rw [ite_two]
    by_cases h : (x.f0 = a ∧ x.f1 = b) ∨ (x.f0 = b ∧ x.f1 = a)
    · rw [if_pos h, if_pos h]
    · rw [if_neg h, if_neg h]
      simpa [ends] using hn
theorem spec_l15Number_ev (l : List S47) (a b : Int) (h : l.length ≤ 9223372036854775806) : Ev (fun k => spec_l15Number.f k l a b) (numFrom a b 0 (ends l)) := spec_l15Number_loop a b l [] h

theorem rdE_ends (l : List S47) {j : Nat} (h : j < (ends l).length) : (rd_T47 l (j : Int)).f0 = ((ends l)[j]).1 := by
  have hl : j < l.length := by simpa [ends] using h
  unfold rd_T47
  simp only [Int.toNat_natCast, List.getD_eq_getElem?_getD, List.getElem?_eq_getElem hl, Option.getD_some, ends, List.getElem_map]
theorem ends_length (l : List S47) : (ends l).length = l.length := by simp [ends]
theorem spec_l15Free_ev (l : List S47) (u : List Int) (x y : Int) (hxy : x ≠ y) (hl : l.length ≤ 1000000) (hu : Unit1 (ends l) u) (h : 0 ≤ (edgeFrom x y 0 (ends l)).1) : Ev (fun k => spec_l15Free.f k l u x y) (openB (ends l) u x y) := by
  have hel := ends_length l
  have hul := hu.1
  unfold spec_l15Free.f openB
  simp only [ev_bind (spec_l15Number_ev l x y (by omega)), ← edgeFrom_num]
  rcases edgeFrom_cases hxy (ends l) 0 with e | ⟨j, hj, e | e⟩
  · rw [e] at h; simp at h
  · obtain ⟨e1, e2⟩ := e
    rw [Nat.zero_add] at e1
    have hb := hu.2 (j : Int) (by omega) (by omega)
    simp only [e1, rdE_ends l hj, e2, show (0 ≤ (j : Int)) = True from eq_true (by omega), show ((j : Int) < (l.length : Int)) = True from eq_true (by omega), show ((j : Int) < (u.length : Int)) = True from eq_true (by omega), if_true, ev_some, decide_true, Bool.true_and]
    rw [decide_eq_decide]; omega
  · obtain ⟨e1, e2⟩ := e
    rw [Nat.zero_add] at e1
    have hb := hu.2 (j : Int) (by omega) (by omega)
    have hyx : (y = x) = False := eq_false fun e => hxy e.symm
    simp only [e1, rdE_ends l hj, e2, hyx, if_false, show (0 ≤ (j : Int)) = True from eq_true (by omega), show ((j : Int) < (l.length : Int)) = True from eq_true (by omega), show ((j : Int) < (u.length : Int)) = True from eq_true (by omega), if_true, ev_some, decide_true, Bool.true_and]
    rw [decide_eq_decide]; omega

theorem spec_l15Reach_in (n : Nat) (l : List S47) (u : List Int) (x a : Int) (hl : l.length ≤ 1000000) (hn : n ≤ 1000) (hu : Unit1 (ends l) u) (x0 : 0 ≤ x) (x1 : x < (n : Int)) (a0 : 0 ≤ a) (a1 : a < (n : Int)) (R : List Int) (t : List Int) : ∀ (p : List Int) (out q : List Int), (∀ k ∈ t, (0 ≤ k ∧ k < (n : Int)) ∧ x ≠ k ∧ 0 ≤ (edgeFrom x k 0 (ends l)).1) → (p ++ t).length ≤ 1000000 → out.length = n → rd out a = a → (∀ v : Int, 0 ≤ v → v < (n : Int) → rd out v = -1 ∨ 0 ≤ rd out v) → q.length + t.length ≤ 1000000 →
    Ev (fun k => spec_l15Reach.l1 k l u ((bfsIn (openB (ends l) u x) x t (out, q)).1.set a.toNat (-2)) (bfsIn (openB (ends l) u x) x t (out, q)).2) R → Ev (fun k => spec_l15Reach.l2 k l u (out.set a.toNat (-2)) q x (p ++ t) ((p ++ t).length : Int) (p.length : Int)) R := by
  induction t with
  | nil =>
    intro p out q _ _ _ _ _ _ h
    refine ev_succ.1 ?_
    simp only [spec_l15Reach.l2, c_end, Int.lt_irrefl, if_false]
    exact h
  | cons k t ih =>
    intro p out q hk hp ho hr hg hq h
    obtain ⟨⟨k0, k1⟩, hxk, hek⟩ := hk k (by simp)
    have hn2 := ih (p ++ [k])
    rw [← c_app, show (p ++ [k]).length = p.length + 1 from by simp] at hn2
    have hw : wrap64 ((p.length : Int) + 1) = ((p.length + 1 : Nat) : Int) := by rw [c_next p k t (by omega)]; simp
    simp only [List.length_cons] at hq
    have hrs : rd (out.set a.toNat (-2)) k = if k = a then -2 else rd out k := rd_set a0 (by omega) k0
    have hiff : (rd (out.set a.toNat (-2)) k = -1) ↔ rd out k < 0 := by
      rw [hrs]
      by_cases e : k = a
      · rw [if_pos e, e, hr]; omega
      · rw [if_neg e]
        have := hg k k0 k1
        omega
    refine ev_succ.1 ?_
    simp only [spec_l15Reach.l2, c_lt, c_nn, c_rd, if_true, List.length_set, show (0 ≤ k) = True from eq_true k0, show (k < (out.length : Int)) = True from eq_true (by omega), hw, ev_ite, hiff]
    simp only [bfsIn] at h
    by_cases h1 : rd out k < 0
    · rw [if_pos h1, ev_bind (spec_l15Free_ev l u x k hxk hl hu hek)]
      cases h2 : openB (ends l) u x k
      · simp only [h1, h2, Bool.false_eq_true, and_false, if_false] at h ⊢
        exact hn2 out q (fun y hy => hk y (by simp [hy])) hp ho hr hg (by omega) h
      · simp only [h1, h2, and_self, if_true, show (q.length < 17592186044416) = True from eq_true (by omega)] at h ⊢
        have hka : k ≠ a := fun e => by rw [e, hr] at h1; omega
        have hs : ∀ v : Int, 0 ≤ v → rd (out.set k.toNat x) v = if v = k then x else rd out v := fun v hv => rd_set k0 (by omega) hv
        rw [List.set_comm _ _ (by omega : a.toNat ≠ k.toNat)]
        exact hn2 (out.set k.toNat x) (q ++ [k]) (fun y hy => hk y (by simp [hy])) hp (by simpa using ho) (by rw [hs a a0, if_neg (fun e => hka e.symm)]; exact hr) (fun v v0 v1 => by
          rw [hs v v0]; split
          · exact Or.inr x0
          · exact hg v v0 v1) (by simp; omega) h
    · rw [if_neg h1]
      simp only [h1, false_and, if_false] at h
      exact hn2 out q (fun y hy => hk y (by simp [hy])) hp ho hr hg (by omega) h
theorem trip_ends (l : List S47) : (l.map trip).map (fun e => (e.1, e.2.1)) = ends l := by
  rw [List.map_map]; rfl
theorem spec_l15Reach_out (n : Nat) (l : List S47) (u : List Int) (hl : l.length ≤ 1000000) (hn : n ≤ 1000) (hx3 : In3 n (l.map trip)) (ho : Once (l.map trip)) (hu : Unit1 (ends l) u) (a : Int) (a0 : 0 ≤ a) (a1 : a < (n : Int)) : ∀ (f : Nat) (out q : List Int) (rank : Int → Nat), Inv (openB (ends l) u) n a out rank → Wait n out q → unv n out + q.length ≤ f → f ≤ 1000 → Ev (fun k => spec_l15Reach.l1 k l u (out.set a.toNat (-2)) q) ((bfs (openB (ends l) u) n f out q).set a.toNat (-2)) := by
  intro f
  induction f with
  | zero =>
    intro out q rank _ _ hq _
    obtain rfl : q = [] := List.length_eq_zero_iff.1 (by omega)
    refine ev_succ.1 ?_
    simp only [spec_l15Reach.l1, List.length_nil, show (((0 : Nat) : Int) > 0) = False from eq_false (by omega), if_false, ev_some, bfs]
  | succ f ih =>
    intro out q rank hi hw hq hf
    match q with
    | [] =>
      refine ev_succ.1 ?_
      simp only [spec_l15Reach.l1, List.length_nil, show (((0 : Nat) : Int) > 0) = False from eq_false (by omega), if_false, ev_some, bfs]
    | x :: q =>
      obtain ⟨hx, hx2⟩ := hw x (by simp)
      simp only [List.length_cons] at hq
      obtain ⟨⟨rank', h1⟩, h2, h3⟩ := bfsIn_inv a0 hx.1 hx.2 (upto n) out q rank (fun k hk => upto_mem.1 hk) hi hx2 (fun v hv => hw v (by simp [hv]))
      have hord : ∀ e ∈ l.map trip, e.1 < e.2.1 := fun e he => (hx3 e he).2.1
      have hfil : bfsIn (openB (ends l) u x) x (nearF (l.map trip) x 0 n) (out, q) = bfsIn (openB (ends l) u x) x (upto n) (out, q) := by
        rw [nearF_upto]
        refine bfsIn_filter _ _ _ (fun k hk => ?_) _ _
        unfold openB at hk
        rw [Bool.and_eq_true, decide_eq_true_eq] at hk
        by_cases hxk : x = k
        · exfalso
          subst hxk
          rcases Int.lt_or_le 0 0 with h | _
          · omega
          · have hno : ∀ (t : List (Int × Int)) (i : Nat), (∀ e ∈ t, e.1 < e.2) → edgeFrom x x i t = (-1, 0) := by
              intro t
              induction t with
              | nil => intro i _; rfl
              | cons e t ih2 =>
                intro i he
                have h0 := he e (by simp)
                unfold edgeFrom
                rw [if_neg (by omega), if_neg (by omega)]
                exact ih2 (i + 1) fun y hy => he y (by simp [hy])
            rw [hno (ends l) 0 (fun e he => by
              rw [← trip_ends] at he
              obtain ⟨z, hz, rfl⟩ := List.mem_map.1 he
              exact hord z hz)] at hk
            have := hk.1
            simp at this
        · have h0 := hk.1
          rw [← trip_ends] at h0
          obtain ⟨c, hc⟩ := edge_adj hxk h0
          have hcc := adj_in hx3 hc
          rw [costV_adj (l.map trip) hord ho hc]
          simp only [decide_eq_true_eq]; omega
      have hmem : ∀ k ∈ nearF (l.map trip) x 0 n, (0 ≤ k ∧ k < (n : Int)) ∧ x ≠ k ∧ 0 ≤ (edgeFrom x k 0 (ends l)).1 := by
        intro k hk
        obtain ⟨m0, m1, m2⟩ := (nearF_mem (l.map trip) x k n 0).1 hk
        obtain ⟨c, hc⟩ : ∃ c, Adj (l.map trip) x k c := by
          have := costV_mem x k (l.map trip) hord (by omega)
          exact ⟨_, this⟩
        have hcc := adj_in hx3 hc
        refine ⟨hcc.2.1, hcc.2.2.2.2, ?_⟩
        have := adj_edge (l.map trip) 0 hc
        rwa [trip_ends] at this
      have hnl := nearF_length (l.map trip) x n 0
      refine ev_succ.1 ?_
      simp only [spec_l15Reach.l1, List.length_cons, show (((q.length + 1 : Nat) : Int) > 0) = True from eq_true (by omega), show ((0 : Int) < ((q.length + 1 : Nat) : Int)) = True from eq_true (by omega), show ((1 : Int) ≤ ((q.length + 1 : Nat) : Int)) = True from eq_true (by omega), if_true, show rd (x :: q) 0 = x from rfl, show (1 : Int).toNat = 1 from rfl, List.drop_succ_cons, List.drop_zero, ev_bind (spec_l8Near_ev n l x hx3 ho hl), bfs]
      refine spec_l15Reach_in n l u x a hl hn hu hx.1 hx.2 a0 a1 _ (nearF (l.map trip) x 0 n) [] out q hmem (by simp; omega) hi.len hi.root (fun v v0 v1 => (hi.rng v v0 v1).imp id fun h => h.1) (by omega) ?_
      rw [hfil]
      exact ih _ _ rank' h1 h2 (by omega) (by omega)
theorem spec_l15Reach_fill (n : Nat) (l : List S47) (u : List Int) (hl : l.length ≤ 1000000) (hn : n ≤ 1000) (hx3 : In3 n (l.map trip)) (ho : Once (l.map trip)) (hu : Unit1 (ends l) u) (a : Int) (a0 : 0 ≤ a) (a1 : a < (n : Int)) : ∀ (d i : Nat), i + d = n → Ev (fun k => spec_l15Reach.l0 k (n : Int) l u a (List.replicate i (-1)) (i : Int)) ((searchV (ends l) n u a).set a.toNat (-2)) := by
  intro d
  induction d with
  | zero =>
    intro i hi
    obtain rfl : i = n := by omega
    have hun := only_unv a0 a1
    refine ev_succ.1 ?_
    simp only [spec_l15Reach.l0, Int.lt_irrefl, if_false, List.length_replicate, show (0 ≤ a) = True from eq_true a0, show (a < (i : Int)) = True from eq_true a1, if_true]
    have := spec_l15Reach_out i l u hl hn hx3 ho hu a a0 a1 i (only i a) [a] _ (only_inv _ a0 a1) (only_wait a0 a1) hun hn
    rw [only, List.set_set] at this
    exact this
  | succ d ih =>
    intro i hi
    refine ev_succ.1 ?_
    simp only [spec_l15Reach.l0, show ((i : Int) < (n : Int)) = True from eq_true (by omega), if_true, List.length_replicate, show (i < 17592186044416) = True from eq_true (by omega), w64 (n := (i : Int) + 1) (by omega) (by omega)]
    rw [← List.replicate_succ' (n := i)]
    exact ih (i + 1) (by omega)
theorem spec_l15Reach_ev (n : Nat) (l : List S47) (u : List Int) (hl : l.length ≤ 1000000) (hn : n ≤ 1000) (hx3 : In3 n (l.map trip)) (ho : Once (l.map trip)) (hu : Unit1 (ends l) u) (a : Int) (a0 : 0 ≤ a) (a1 : a < (n : Int)) : Ev (fun k => spec_l15Reach.f k (n : Int) l u a) ((searchV (ends l) n u a).set a.toNat (-2)) := spec_l15Reach_fill n l u hl hn hx3 ho hu a a0 a1 n 0 (by omega)

end Go.Proofs.Ythambdfgkfkcmaa.Pure
