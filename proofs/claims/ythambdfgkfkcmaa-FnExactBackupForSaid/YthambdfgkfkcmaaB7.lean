/- What functions of the program answer, as plain functions: used by the laws of this claim. -/
import Derived.Test.YthambdfgkfkcmaaB0
import Derived.Test.YthambdfgkfkcmaaF7
import Derived.Test.YthambdfgkfkcmaaB3
import Derived.Test.YthambdfgkfkcmaaQFlow
import Derived.Test.YthambdfgkfkcmaaQGraph
import Derived.Test.YthambdfgkfkcmaaQNear
import Derived.Test.YthambdfgkfkcmaaQShort
import Derived.Test.YthambdfgkfkcmaaQTree
import Derived.Test.YthambdfgkfkcmaaQWay
namespace Go.Proofs.Ythambdfgkfkcmaa.Pure
open Go.RowKit Go.Proofs.Ythambdfgkfkcmaa.P Go.Proofs.YthambdfgkfkcmaaW.PrintWords Go.Proofs.Ythambdfgkfkcmaa.Q
set_option linter.unusedVariables false
set_option linter.unusedSimpArgs false

theorem spec_l9Two_ev (n : Nat) (l : List S47) (a b : Int) (hn : n ≤ 1000) (hl : l.length ≤ 1000000) (hg : goodE (n : Int) (l.map trip) = true) (a0 : 0 ≤ a) (a1 : a < (n : Int)) (b0 : 0 ≤ b) (b1 : b < (n : Int)) : Ev (fun k => spec_l9Two.f k (n : Int) l a b) true := by
  have e1 : inB 0 ((n : Int) - 1) a = true := inB_iff.2 (by omega)
  have e2 : inB 0 ((n : Int) - 1) b = true := inB_iff.2 (by omega)
  unfold spec_l9Two.f
  simp only [ev_bind (spec_GoodEdges_ev (n : Int) l (by omega)), hg, if_true, w64 (n := (n : Int) - 1) (by omega) (by omega), spec_l1In_eq, Option.bind_some, e1, e2]
  exact Ev.now _
theorem spec_l9Two_all (n : Int) (l : List S47) (a b : Int) (hl : l.length ≤ 1000000000) : Ev (fun k => spec_l9Two.f k n l a b) (goodE n (l.map trip) && (inB 0 (wrap64 (n - 1)) a && inB 0 (wrap64 (n - 1)) b)) := by
  unfold spec_l9Two.f
  simp only [ev_bind (spec_GoodEdges_ev n l (by omega)), spec_l1In_eq, Option.bind_some, ev_ite, ev_some]
  cases goodE n (l.map trip) <;> cases inB 0 (wrap64 (n - 1)) a <;> simp

theorem spec_l15Two_ev (n : Int) (l : List S47) (a b : Int) (hl : l.length ≤ 1000000000) : Ev (fun k => spec_l15Two.f k n l a b) (goodE n (l.map trip) && (inB 0 (wrap64 (n - 1)) a && inB 0 (wrap64 (n - 1)) b) && (a != b)) := by
  unfold spec_l15Two.f
  simp only [ev_bind (spec_l9Two_all n l a b hl), ev_ite, ev_some]
  cases goodE n (l.map trip) && (inB 0 (wrap64 (n - 1)) a && inB 0 (wrap64 (n - 1)) b) <;> simp

-- needs QTree
theorem spec_l1Put_loop (n : Int) (t : List Int) : ∀ p : List Int, (p ++ t).length ≤ 8796093022206 → Ev (fun k => spec_l1Put.l0 k (p ++ t) n (p.length : Int)) (p ++ putV t n) := by
  induction t with
  | nil =>
    intro p hb
    refine ev_succ.1 ?_
    rw [List.append_nil]
    have e1 : ((p.length : Int) ≤ (p.length : Int)) = True := eq_true (Int.le_refl _)
    have e2 : p.take ((p.length : Int)).toNat = p := by simp
    have e3 : p.drop ((p.length : Int)).toNat = [] := by simp
    have e4 : (p.length < 17592186044416) = True := eq_true (by simp at hb; omega)
    have e5 : ((p ++ [n]).length < 17592186044416) = True := eq_true (by simp at hb ⊢; omega)
    simp only [spec_l1Put.l0, c_end, Int.lt_irrefl, if_false, Option.bind_some, c_nn, if_true, e1, e2, e3, e4, e5, List.nil_append, List.length_nil, Nat.zero_add, Nat.add_zero, List.append_nil, ev_some, putV]
  | cons x t ih =>
    intro p hb
    refine ev_succ.1 ?_
    have e1 : ((p.length : Int) ≤ ((p ++ x :: t).length : Int)) = True := eq_true (by simp; omega)
    have e2 : (p ++ x :: t).take ((p.length : Int)).toNat = p := by simp
    have e3 : (p ++ x :: t).drop ((p.length : Int)).toNat = x :: t := by simp
    have e4 : (p.length < 17592186044416) = True := eq_true (by simp at hb; omega)
    have e5 : ((p ++ [n]).length + (x :: t).length < 17592186044416) = True := eq_true (by simp at hb ⊢; omega)
    simp only [spec_l1Put.l0, c_lt, c_nn, c_rd, c_next p x t (by omega), Option.bind_some, if_true, e1, e2, e3, e4, e5, List.nil_append, List.length_nil, Nat.zero_add, ev_ite, ev_some]
    have h1 := ih (p ++ [x]) (by rwa [← c_app])
    rw [← c_app] at h1
    by_cases h : x < n
    · simpa [h, putV] using h1
    · by_cases h2 : x = n <;> simp [h, h2, putV]
theorem spec_l1Put_ev (l : List Int) (n : Int) (h : l.length ≤ 8796093022206) : Ev (fun k => spec_l1Put.f k l n) (putV l n) := spec_l1Put_loop n l [] h

theorem spec_l8Near_loop (v : Int) (n : Int) (t : List S47) : ∀ (p : List S47) (o : List Int), (∀ x ∈ t, (0 ≤ x.f0 ∧ x.f0 < n) ∧ 0 ≤ x.f1 ∧ x.f1 < n) → (p ++ t).length ≤ 1000000 → o.length ≤ 2 * p.length → (∀ y ∈ o, 0 ≤ y ∧ y < n) → ∃ r, Ev (fun k => spec_l8Near.l0 k v o (p ++ t) ((p ++ t).length : Int) (p.length : Int)) r ∧ r.length ≤ 2 * (p ++ t).length ∧ ∀ y ∈ r, 0 ≤ y ∧ y < n := by
  induction t with
  | nil =>
    intro p o _ _ ho hy
    refine ⟨o, ev_succ.1 ?_, by simpa using ho, hy⟩
    simp only [spec_l8Near.l0, c_end, Int.lt_irrefl, if_false, ev_some]
  | cons x t ih =>
    intro p o hx hb ho hy
    obtain ⟨⟨x0, x1⟩, x2, x3⟩ := hx x (by simp)
    have hpl : p.length ≤ 1000000 := by simp at hb; omega
    have hl0 := putV_length x.f1 o
    have hl1 := putV_length x.f0 (putV o x.f1)
    have hl2 := putV_length x.f0 o
    have m0 : ∀ y ∈ putV o x.f1, 0 ≤ y ∧ y < n := fun y h => by
      rcases (putV_mem _ _ _).1 h with rfl | h
      · exact ⟨x2, x3⟩
      · exact hy y h
    have m1 : ∀ y ∈ putV (putV o x.f1) x.f0, 0 ≤ y ∧ y < n := fun y h => by
      rcases (putV_mem _ _ _).1 h with rfl | h
      · exact ⟨x0, x1⟩
      · exact m0 y h
    have m2 : ∀ y ∈ putV o x.f0, 0 ≤ y ∧ y < n := fun y h => by
      rcases (putV_mem _ _ _).1 h with rfl | h
      · exact ⟨x0, x1⟩
      · exact hy y h
    have next : ∀ o' : List Int, o'.length ≤ 2 * (p ++ [x]).length → (∀ y ∈ o', 0 ≤ y ∧ y < n) → ∃ r, Ev (fun k => spec_l8Near.l0 k v o' (p ++ x :: t) ((p ++ x :: t).length : Int) ((p ++ [x]).length : Int)) r ∧ r.length ≤ 2 * (p ++ x :: t).length ∧ ∀ y ∈ r, 0 ≤ y ∧ y < n := fun o' h1 h2 => by
      have := ih (p ++ [x]) o' (fun y hy => hx y (by simp [hy])) (by rwa [← c_app]) h1 h2
      rwa [← c_app] at this
    by_cases h1 : x.f0 = v
    · by_cases h2 : x.f1 = v
      · obtain ⟨r, he, hr⟩ := next _ (by simp; omega) m1
        refine ⟨r, ev_succ.1 ?_, hr⟩
        simp only [spec_l8Near.l0, c_lt, c_nn, rdE_at, if_true, if_pos h1, if_pos h2, ev_bind (spec_l1Put_ev o x.f1 (by omega)), ev_bind (spec_l1Put_ev (putV o x.f1) x.f0 (by omega)), c_next p x t (by omega)]
        exact he
      · obtain ⟨r, he, hr⟩ := next _ (by simp; omega) m0
        refine ⟨r, ev_succ.1 ?_, hr⟩
        simp only [spec_l8Near.l0, c_lt, c_nn, rdE_at, if_true, if_pos h1, if_neg h2, ev_bind (spec_l1Put_ev o x.f1 (by omega)), c_next p x t (by omega)]
        exact he
    · by_cases h2 : x.f1 = v
      · obtain ⟨r, he, hr⟩ := next _ (by simp; omega) m2
        refine ⟨r, ev_succ.1 ?_, hr⟩
        simp only [spec_l8Near.l0, c_lt, c_nn, rdE_at, if_true, if_neg h1, if_pos h2, ev_bind (spec_l1Put_ev o x.f0 (by omega)), c_next p x t (by omega)]
        exact he
      · obtain ⟨r, he, hr⟩ := next o (by simp; omega) hy
        refine ⟨r, ev_succ.1 ?_, hr⟩
        simp only [spec_l8Near.l0, c_lt, c_nn, rdE_at, if_true, if_neg h1, if_neg h2, c_next p x t (by omega)]
        exact he
theorem spec_l8Near_ok (l : List S47) (v n : Int) (hx : ∀ x ∈ l, (0 ≤ x.f0 ∧ x.f0 < n) ∧ 0 ≤ x.f1 ∧ x.f1 < n) (hl : l.length ≤ 1000000) : ∃ r, Ev (fun k => spec_l8Near.f k l v) r ∧ r.length ≤ 2 * l.length ∧ ∀ y ∈ r, 0 ≤ y ∧ y < n :=
  spec_l8Near_loop v n l [] [] hx hl (by simp) (by simp)
theorem spec_l8Near_val (v : Int) (t : List S47) : ∀ (p : List S47) (o : List Int), (∀ x ∈ t, x.f0 < x.f1) → (p ++ t).length ≤ 1000000 → o.length ≤ 2 * p.length → Ev (fun k => spec_l8Near.l0 k v o (p ++ t) ((p ++ t).length : Int) (p.length : Int)) (nearP v (t.map trip) o) := by
  induction t with
  | nil =>
    intro p o _ _ _
    refine ev_succ.1 ?_
    simp only [spec_l8Near.l0, c_end, Int.lt_irrefl, if_false, ev_some, List.map_nil, nearP]
  | cons x t ih =>
    intro p o hx hb ho
    have hlt := hx x (by simp)
    have hpl : p.length ≤ 1000000 := by simp at hb; omega
    have next : ∀ o' : List Int, o'.length ≤ 2 * (p ++ [x]).length → Ev (fun k => spec_l8Near.l0 k v o' (p ++ x :: t) ((p ++ x :: t).length : Int) ((p ++ [x]).length : Int)) (nearP v (t.map trip) o') := fun o' h1 => by
      have := ih (p ++ [x]) o' (fun y hy => hx y (by simp [hy])) (by rwa [← c_app]) h1
      rwa [← c_app] at this
    have l1 := putV_length x.f1 o
    have l0 := putV_length x.f0 o
    refine ev_succ.1 ?_
    simp only [List.map_cons, nearP, trip]
    by_cases h1 : x.f0 = v
    · have h2 : ¬ x.f1 = v := by omega
      simp only [spec_l8Near.l0, c_lt, c_nn, rdE_at, if_true, if_pos h1, if_neg h2, ev_bind (spec_l1Put_ev o x.f1 (by omega)), c_next p x t (by omega)]
      exact next _ (by simp; omega)
    · by_cases h2 : x.f1 = v
      · simp only [spec_l8Near.l0, c_lt, c_nn, rdE_at, if_true, if_neg h1, if_pos h2, ev_bind (spec_l1Put_ev o x.f0 (by omega)), c_next p x t (by omega)]
        exact next _ (by simp; omega)
      · simp only [spec_l8Near.l0, c_lt, c_nn, rdE_at, if_true, if_neg h1, if_neg h2, c_next p x t (by omega)]
        exact next _ (by simp; omega)
theorem spec_l8Near_ev (n : Nat) (l : List S47) (v : Int) (hx : In3 n (l.map trip)) (hu : Once (l.map trip)) (hl : l.length ≤ 1000000) : Ev (fun k => spec_l8Near.f k l v) (nearF (l.map trip) v 0 n) := by
  have h := spec_l8Near_val v l [] [] (fun x hm => by have := hx (trip x) (List.mem_map_of_mem hm); simp only [trip] at this; omega) (by simpa using hl) (by simp)
  rw [nearP_eq hx hu] at h
  exact h

theorem rdE_ends (l : List S47) {j : Nat} (h : j < (ends l).length) : (rd_T47 l (j : Int)).f0 = ((ends l)[j]).1 := by
  have hl : j < l.length := by simpa [ends] using h
  unfold rd_T47
  simp only [Int.toNat_natCast, List.getD_eq_getElem?_getD, List.getElem?_eq_getElem hl, Option.getD_some, ends, List.getElem_map]
theorem ends_length (l : List S47) : (ends l).length = l.length := by simp [ends]
theorem spec_l15Free_ev (l : List S47) (u : List Int) (x y : Int) (hxy : x ≠ y) (hl : l.length ≤ 1000000) (hu : Unit1 (ends l) u) (h : 0 ≤ (edgeFrom x y 0 (ends l)).1) : Ev (fun k => spec_l15Free.f k l u x y) (openB (ends l) u x y) := by
  have hel := ends_length l
  have hul := hu.1
  unfold spec_l15Free.f openB
  simp only [ev_bind (spec_l15Number_ev l x y (by omega)), ← edgeFrom_num]
  rcases edgeFrom_cases hxy (ends l) 0 with e | ⟨j, hj, e | e⟩
  · rw [e] at h; simp at h
  · obtain ⟨e1, e2⟩ := e
    rw [Nat.zero_add] at e1
    have hb := hu.2 (j : Int) (by omega) (by omega)
    simp only [e1, rdE_ends l hj, e2, show (0 ≤ (j : Int)) = True from eq_true (by omega), show ((j : Int) < (l.length : Int)) = True from eq_true (by omega), show ((j : Int) < (u.length : Int)) = True from eq_true (by omega), if_true, ev_some, decide_true, Bool.true_and]
    rw [decide_eq_decide]; omega
  · obtain ⟨e1, e2⟩ := e
    rw [Nat.zero_add] at e1
    have hb := hu.2 (j : Int) (by omega) (by omega)
    have hyx : (y = x) = False := eq_false fun e => hxy e.symm
    simp only [e1, rdE_ends l hj, e2, hyx, if_false, show (0 ≤ (j : Int)) = True from eq_true (by omega), show ((j : Int) < (l.length : Int)) = True from eq_true (by omega), show ((j : Int) < (u.length : Int)) = True from eq_true (by omega), if_true, ev_some, decide_true, Bool.true_and]
    rw [decide_eq_decide]; omega

theorem spec_l15Reach_in (n : Nat) (l : List S47) (u : List Int) (x a : Int) (hl : l.length ≤ 1000000) (hn : n ≤ 1000) (hu : Unit1 (ends l) u) (x0 : 0 ≤ x) (x1 : x < (n : Int)) (a0 : 0 ≤ a) (a1 : a < (n : Int)) (R : List Int) (t : List Int) : ∀ (p : List Int) (out q : List Int), (∀ k ∈ t, (0 ≤ k ∧ k < (n : Int)) ∧ x ≠ k ∧ 0 ≤ (edgeFrom x k 0 (ends l)).1) → (p ++ t).length ≤ 1000000 → out.length = n → rd out a = a → (∀ v : Int, 0 ≤ v → v < (n : Int) → rd out v = -1 ∨ 0 ≤ rd out v) → q.length + t.length ≤ 1000000 →
    Ev (fun k => spec_l15Reach.l1 k l u ((bfsIn (openB (ends l) u x) x t (out, q)).1.set a.toNat (-2)) (bfsIn (openB (ends l) u x) x t (out, q)).2) R → Ev (fun k => spec_l15Reach.l2 k l u (out.set a.toNat (-2)) q x (p ++ t) ((p ++ t).length : Int) (p.length : Int)) R := by
  induction t with
  | nil =>
    intro p out q _ _ _ _ _ _ h
    refine ev_succ.1 ?_
    simp only [spec_l15Reach.l2, c_end, Int.lt_irrefl, if_false]
    exact h
  | cons k t ih =>
    intro p out q hk hp ho hr hg hq h
    obtain ⟨⟨k0, k1⟩, hxk, hek⟩ := hk k (by simp)
    have hn2 := ih (p ++ [k])
    rw [← c_app, show (p ++ [k]).length = p.length + 1 from by simp] at hn2
    have hw : wrap64 ((p.length : Int) + 1) = ((p.length + 1 : Nat) : Int) := by rw [c_next p k t (by omega)]; simp
    simp only [List.length_cons] at hq
    have hrs : rd (out.set a.toNat (-2)) k = if k = a then -2 else rd out k := rd_set a0 (by omega) k0
    have hiff : (rd (out.set a.toNat (-2)) k = -1) ↔ rd out k < 0 := by
      rw [hrs]
      by_cases e : k = a
      · rw [if_pos e, e, hr]; omega
      · rw [if_neg e]
        have := hg k k0 k1
        omega
    refine ev_succ.1 ?_
    simp only [spec_l15Reach.l2, c_lt, c_nn, c_rd, if_true, List.length_set, show (0 ≤ k) = True from eq_true k0, show (k < (out.length : Int)) = True from eq_true (by omega), hw, ev_ite, hiff]
    simp only [bfsIn] at h
    by_cases h1 : rd out k < 0
    · rw [if_pos h1, ev_bind (spec_l15Free_ev l u x k hxk hl hu hek)]
      cases h2 : openB (ends l) u x k
      · simp only [h1, h2, Bool.false_eq_true, and_false, if_false] at h ⊢
        exact hn2 out q (fun y hy => hk y (by simp [hy])) hp ho hr hg (by omega) h
      · simp only [h1, h2, and_self, if_true, show (q.length < 17592186044416) = True from eq_true (by omega)] at h ⊢
        have hka : k ≠ a := fun e => by rw [e, hr] at h1; omega
        have hs : ∀ v : Int, 0 ≤ v → rd (out.set k.toNat x) v = if v = k then x else rd out v := fun v hv => rd_set k0 (by omega) hv
        rw [List.set_comm _ _ (by omega : a.toNat ≠ k.toNat)]
        exact hn2 (out.set k.toNat x) (q ++ [k]) (fun y hy => hk y (by simp [hy])) hp (by simpa using ho) (by rw [hs a a0, if_neg (fun e => hka e.symm)]; exact hr) (fun v v0 v1 => by
          rw [hs v v0]; split
          · exact Or.inr x0
          · exact hg v v0 v1) (by simp; omega) h
    · rw [if_neg h1]
      simp only [h1, false_and, if_false] at h
      exact hn2 out q (fun y hy => hk y (by simp [hy])) hp ho hr hg (by omega) h
theorem trip_ends (l : List S47) : (l.map trip).map (fun e => (e.1, e.2.1)) = ends l := by
  rw [List.map_map]; rfl
theorem spec_l15Reach_out (n : Nat) (l : List S47) (u : List Int) (hl : l.length ≤ 1000000) (hn : n ≤ 1000) (hx3 : In3 n (l.map trip)) (ho : Once (l.map trip)) (hu : Unit1 (ends l) u) (a : Int) (a0 : 0 ≤ a) (a1 : a < (n : Int)) : ∀ (f : Nat) (out q : List Int) (rank : Int → Nat), Inv (openB (ends l) u) n a out rank → Wait n out q → unv n out + q.length ≤ f → f ≤ 1000 → Ev (fun k => spec_l15Reach.l1 k l u (out.set a.toNat (-2)) q) ((bfs (openB (ends l) u) n f out q).set a.toNat (-2)) := by
  intro f
  induction f with
  | zero =>
    intro out q rank _ _ hq _
    obtain rfl : q = [] := List.length_eq_zero_iff.1 (by omega)
    refine ev_succ.1 ?_
    simp only [spec_l15Reach.l1, List.length_nil, show (((0 : Nat) : Int) > 0) = False from eq_false (by omega), if_false, ev_some, bfs]
  | succ f ih =>
    intro out q rank hi hw hq hf
    match q with
    | [] =>
      refine ev_succ.1 ?_
      simp only [spec_l15Reach.l1, List.length_nil, show (((0 : Nat) : Int) > 0) = False from eq_false (by omega), if_false, ev_some, bfs]
    | x :: q =>
      obtain ⟨hx, hx2⟩ := hw x (by simp)
      simp only [List.length_cons] at hq
      obtain ⟨⟨rank', h1⟩, h2, h3⟩ := bfsIn_inv a0 hx.1 hx.2 (upto n) out q rank (fun k hk => upto_mem.1 hk) hi hx2 (fun v hv => hw v (by simp [hv]))
      have hord : ∀ e ∈ l.map trip, e.1 < e.2.1 := fun e he => (hx3 e he).2.1
      have hfil : bfsIn (openB (ends l) u x) x (nearF (l.map trip) x 0 n) (out, q) = bfsIn (openB (ends l) u x) x (upto n) (out, q) := by
        rw [nearF_upto]
        refine bfsIn_filter _ _ _ (fun k hk => ?_) _ _
        unfold openB at hk
        rw [Bool.and_eq_true, decide_eq_true_eq] at hk
        by_cases hxk : x = k
        · exfalso
          subst hxk
          rcases Int.lt_or_le 0 0 with h | _
          · omega
          · have hno : ∀ (t : List (Int × Int)) (i : Nat), (∀ e ∈ t, e.1 < e.2) → edgeFrom x x i t = (-1, 0) := by
              intro t
              induction t with
              | nil => intro i _; rfl
              | cons e t ih2 =>
                intro i he
                have h0 := he e (by simp)
                unfold edgeFrom
                rw [if_neg (by omega), if_neg (by omega)]
                exact ih2 (i + 1) fun y hy => he y (by simp [hy])
            rw [hno (ends l) 0 (fun e he => by
              rw [← trip_ends] at he
              obtain ⟨z, hz, rfl⟩ := List.mem_map.1 he
              exact hord z hz)] at hk
            have := hk.1
            simp at this
        · have h0 := hk.1
          rw [← trip_ends] at h0
          obtain ⟨c, hc⟩ := edge_adj hxk h0
          have hcc := adj_in hx3 hc
          rw [costV_adj (l.map trip) hord ho hc]
          simp only [decide_eq_true_eq]; omega
      have hmem : ∀ k ∈ nearF (l.map trip) x 0 n, (0 ≤ k ∧ k < (n : Int)) ∧ x ≠ k ∧ 0 ≤ (edgeFrom x k 0 (ends l)).1 := by
        intro k hk
        obtain ⟨m0, m1, m2⟩ := (nearF_mem (l.map trip) x k n 0).1 hk
        obtain ⟨c, hc⟩ : ∃ c, Adj (l.map trip) x k c := by
          have := costV_mem x k (l.map trip) hord (by omega)
          exact ⟨_, this⟩
        have hcc := adj_in hx3 hc
        refine ⟨hcc.2.1, hcc.2.2.2.2, ?_⟩
        have := adj_edge (l.map trip) 0 hc
        rwa [trip_ends] at this
      have hnl := nearF_length (l.map trip) x n 0
      refine ev_succ.1 ?_
      simp only [spec_l15Reach.l1, List.length_cons, show (((q.length + 1 : Nat) : Int) > 0) = True from eq_true (by omega), show ((0 : Int) < ((q.length + 1 : Nat) : Int)) = True from eq_true (by omega), show ((1 : Int) ≤ ((q.length + 1 : Nat) : Int)) = True from eq_true (by omega), if_true, show rd (x :: q) 0 = x from rfl, show (1 : Int).toNat = 1 from rfl, List.drop_succ_cons, List.drop_zero, ev_bind (spec_l8Near_ev n l x hx3 ho hl), bfs]
      refine spec_l15Reach_in n l u x a hl hn hu hx.1 hx.2 a0 a1 _ (nearF (l.map trip) x 0 n) [] out q hmem (by simp; omega) hi.len hi.root (fun v v0 v1 => (hi.rng v v0 v1).imp id fun h => h.1) (by omega) ?_
      rw [hfil]
      exact ih _ _ rank' h1 h2 (by omega) (by omega)
theorem spec_l15Reach_fill (n : Nat) (l : List S47) (u : List Int) (hl : l.length ≤ 1000000) (hn : n ≤ 1000) (hx3 : In3 n (l.map trip)) (ho : Once (l.map trip)) (hu : Unit1 (ends l) u) (a : Int) (a0 : 0 ≤ a) (a1 : a < (n : Int)) : ∀ (d i : Nat), i + d = n → Ev (fun k => spec_l15Reach.l0 k (n : Int) l u a (List.replicate i (-1)) (i : Int)) ((searchV (ends l) n u a).set a.toNat (-2)) := by
  intro d
  induction d with
  | zero =>
    intro i hi
    obtain rfl : i = n := by omega
    have hun := only_unv a0 a1
    refine ev_succ.1 ?_
    simp only [spec_l15Reach.l0, Int.lt_irrefl, if_false, List.length_replicate, show (0 ≤ a) = True from eq_true a0, show (a < (i : Int)) = True from eq_true a1, if_true]
    have := spec_l15Reach_out i l u hl hn hx3 ho hu a a0 a1 i (only i a) [a] _ (only_inv _ a0 a1) (only_wait a0 a1) hun hn
    rw [only, List.set_set] at this
    exact this
  | succ d ih =>
    intro i hi
    refine ev_succ.1 ?_
    simp only [spec_l15Reach.l0, show ((i : Int) < (n : Int)) = True from eq_true (by omega), if_true, List.length_replicate, show (i < 17592186044416) = True from eq_true (by omega), w64 (n := (i : Int) + 1) (by omega) (by omega)]
    rw [← List.replicate_succ' (n := i)]
    exact ih (i + 1) (by omega)
theorem spec_l15Reach_ev (n : Nat) (l : List S47) (u : List Int) (hl : l.length ≤ 1000000) (hn : n ≤ 1000) (hx3 : In3 n (l.map trip)) (ho : Once (l.map trip)) (hu : Unit1 (ends l) u) (a : Int) (a0 : 0 ≤ a) (a1 : a < (n : Int)) : Ev (fun k => spec_l15Reach.f k (n : Int) l u a) ((searchV (ends l) n u a).set a.toNat (-2)) := spec_l15Reach_fill n l u hl hn hx3 ho hu a a0 a1 n 0 (by omega)

end Go.Proofs.Ythambdfgkfkcmaa.Pure
