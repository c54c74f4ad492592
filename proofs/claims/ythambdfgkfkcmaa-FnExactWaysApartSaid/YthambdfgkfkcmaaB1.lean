/- What functions of the program answer, as plain functions: used by the laws of this claim. -/
import Derived.Test.YthambdfgkfkcmaaB0
import Derived.Test.YthambdfgkfkcmaaF1
import Derived.Test.YthambdfgkfkcmaaQFlow
import Derived.Test.YthambdfgkfkcmaaQNear
import Derived.Test.YthambdfgkfkcmaaQShort
import Derived.Test.YthambdfgkfkcmaaQTree
import Derived.Test.YthambdfgkfkcmaaQWay
namespace Go.Proofs.Ythambdfgkfkcmaa.Pure
open Go.RowKit Go.Proofs.Ythambdfgkfkcmaa.P Go.Proofs.YthambdfgkfkcmaaW.PrintWords Go.Proofs.Ythambdfgkfkcmaa.Q
set_option linter.unusedVariables false
set_option linter.unusedSimpArgs false

theorem laws_szEdgeS_eq (l : List S69) (h : l.length ≤ maxLen) : laws_szEdgeS.f l 1048576 = some (if (l.length : Int) > 1048576 then -1 else 1048576 - (l.length : Int)) := by
  unfold laws_szEdgeS.f
  unfold maxLen at h
  rw [w64 (by omega) (by omega)]
  split <;> split <;> first | rfl | omega

theorem spec_l1In_eq (a b c : Int) : spec_l1In.f a b c = some (inB b c a) := by
  unfold spec_l1In.f inB
  by_cases h1 : a ≥ b <;> by_cases h2 : a ≤ c <;> simp [h1, h2] <;> omega

theorem spec_GoodEdges_loop (n : Int) (t : List S47) : ∀ p : List S47, (p ++ t).length ≤ 9223372036854775806 → Ev (fun k => spec_GoodEdges.l0 k n (p ++ t) (p ++ t) ((p ++ t).length : Int) (p.length : Int)) (edgesB (wrap64 (n - 1)) (p.getLast?.map trip) (t.map trip) && (inB 1 12 n && decide ((p ++ t).length ≤ 40))) := by
  induction t with
  | nil =>
    intro p _
    refine ev_succ.1 ?_
    simp only [spec_GoodEdges.l0, c_end, Int.lt_irrefl, if_false, ev_some, spec_l1In_eq, Option.bind_some, ev_ite]
    have e : (decide (((p ++ []).length : Int) ≤ 40)) = decide ((p ++ []).length ≤ 40) := decide_eq_decide.2 (by omega)
    rw [e]
    simp only [List.map_nil, edgesB_nil, Bool.true_and]
    cases inB 1 12 n <;> simp
  | cons x t ih =>
    intro p hb
    refine ev_succ.1 ?_
    have hn := ih (p ++ [x]) (by rwa [← c_app])
    rw [← c_app] at hn
    simp only [List.getLast?_append, List.getLast?_singleton, Option.some_or, Option.map_some] at hn
    simp only [spec_GoodEdges.l0, c_lt, c_nn, rdE_at, if_true, spec_l1In_eq, Option.bind_some, ev_ite]
    have hj : ∀ b, Ev (fun k => spec_GoodEdges.j1 k n (p ++ x :: t) (p.length : Int) (p ++ x :: t) ((p ++ x :: t).length : Int) (p.length : Int) b x.f0 x.f1 x.f2) (!b && behindB (p.getLast?.map trip) (trip x) && (edgesB (wrap64 (n - 1)) (some (trip x)) (t.map trip) && (inB 1 12 n && decide ((p ++ x :: t).length ≤ 40)))) := by
      intro b
      refine ev_succ.1 ?_
      simp only [spec_GoodEdges.j1, c_next _ _ _ hb, ev_ite, ev_some]
      cases b
      · rcases List.eq_nil_or_concat p with rfl | ⟨q, y, rfl⟩
        · simpa [behindB] using hn
        · simp only [List.concat_eq_append] at *
          have e1 : wrap64 (((q ++ [y]).length : Int) - 1) = (q.length : Int) := by
            simp only [List.length_append, List.length_cons, List.length_nil] at hb ⊢
            unfold wrap64; omega
          have e2 : rd_T47 (q ++ [y] ++ x :: t) (q.length : Int) = y := by rw [← c_app]; exact rdE_at _ _ _
          have e3 : ((q.length : Int) < ((q ++ [y] ++ x :: t).length : Int)) = True := by rw [← c_app]; exact c_lt _ _ _
          have e4 : (((q ++ [y]).length : Int) > 0) = True := eq_true (by simp)
          simp only [e1, e2, e3, e4, c_nn, if_true, Bool.false_eq_true, if_false, List.getLast?_append, List.getLast?_singleton, Option.some_or, Option.map_some]
          by_cases h1 : y.f0 > x.f0
          · simp [h1, behindB, trip, show ¬ y.f0 < x.f0 by omega, show ¬ y.f0 = x.f0 by omega]
          · by_cases h2 : y.f0 = x.f0
            · by_cases h3 : y.f1 ≥ x.f1
              · simp [h2, h3, behindB, trip, show ¬ y.f1 < x.f1 by omega]
              · simp only [h1, h2, h3, if_true, if_false]
                simpa [h2, behindB, trip, show y.f1 < x.f1 by omega] using hn
            · simp only [h1, h2, if_false]
              simpa [h2, behindB, trip, show y.f0 < x.f0 by omega] using hn
      · simp
    have h0 := hj false
    have h1 := hj true
    have h2 := hj (!inB 1 100 x.f2)
    simp only [List.map_cons, edgesB_cons]
    simp only [trip] at h0 h1 h2 ⊢
    cases inB 0 (wrap64 (n - 1)) x.f0 <;> cases inB 0 (wrap64 (n - 1)) x.f1
    · simpa using h1
    · simpa using h1
    · simpa using h1
    · by_cases h3 : x.f0 ≥ x.f1
      · simp only [h3, if_true]; simpa [show ¬ x.f0 < x.f1 by omega] using h1
      · simp only [h3, if_true, if_false]
        simpa [show x.f0 < x.f1 by omega, Bool.and_assoc] using h2
theorem spec_GoodEdges_ev (n : Int) (l : List S47) (h : l.length ≤ 9223372036854775806) : Ev (fun k => spec_GoodEdges.f k n l) (goodE n (l.map trip)) := by
  unfold goodE spec_GoodEdges.f
  simpa using spec_GoodEdges_loop n l [] h

theorem spec_l9Two_ev (n : Nat) (l : List S47) (a b : Int) (hn : n ≤ 1000) (hl : l.length ≤ 1000000) (hg : goodE (n : Int) (l.map trip) = true) (a0 : 0 ≤ a) (a1 : a < (n : Int)) (b0 : 0 ≤ b) (b1 : b < (n : Int)) : Ev (fun k => spec_l9Two.f k (n : Int) l a b) true := by
  have e1 : inB 0 ((n : Int) - 1) a = true := inB_iff.2 (by omega)
  have e2 : inB 0 ((n : Int) - 1) b = true := inB_iff.2 (by omega)
  unfold spec_l9Two.f
  simp only [ev_bind (spec_GoodEdges_ev (n : Int) l (by omega)), hg, if_true, w64 (n := (n : Int) - 1) (by omega) (by omega), spec_l1In_eq, Option.bind_some, e1, e2]
  exact Ev.now _
theorem spec_l9Two_all (n : Int) (l : List S47) (a b : Int) (hl : l.length ≤ 1000000000) : Ev (fun k => spec_l9Two.f k n l a b) (goodE n (l.map trip) && (inB 0 (wrap64 (n - 1)) a && inB 0 (wrap64 (n - 1)) b)) := by
  unfold spec_l9Two.f
  simp only [ev_bind (spec_GoodEdges_ev n l (by omega)), spec_l1In_eq, Option.bind_some, ev_ite, ev_some]
  cases goodE n (l.map trip) <;> cases inB 0 (wrap64 (n - 1)) a <;> simp

theorem spec_l15Two_ev (n : Int) (l : List S47) (a b : Int) (hl : l.length ≤ 1000000000) : Ev (fun k => spec_l15Two.f k n l a b) (goodE n (l.map trip) && (inB 0 (wrap64 (n - 1)) a && inB 0 (wrap64 (n - 1)) b) && (a != b)) := by
  unfold spec_l15Two.f
  simp only [ev_bind (spec_l9Two_all n l a b hl), ev_ite, ev_some]
  cases goodE n (l.map trip) && (inB 0 (wrap64 (n - 1)) a && inB 0 (wrap64 (n - 1)) b) <;> simp

-- needs QTree
theorem spec_l1Put_loop (n : Int) (t : List Int) : ∀ p : List Int, (p ++ t).length ≤ 8796093022206 → Ev (fun k => spec_l1Put.l0 k (p ++ t) n (p.length : Int)) (p ++ putV t n) := by
  induction t with
  | nil =>
    intro p hb
    refine ev_succ.1 ?_
    rw [List.append_nil]
    have e1 : ((p.length : Int) ≤ (p.length : Int)) = True := eq_true (Int.le_refl _)
    have e2 : p.take ((p.length : Int)).toNat = p := by simp
    have e3 : p.drop ((p.length : Int)).toNat = [] := by simp
    have e4 : (p.length < 17592186044416) = True := eq_true (by simp at hb; omega)
    have e5 : ((p ++ [n]).length < 17592186044416) = True := eq_true (by simp at hb ⊢; omega)
    simp only [spec_l1Put.l0, c_end, Int.lt_irrefl, if_false, Option.bind_some, c_nn, if_true, e1, e2, e3, e4, e5, List.nil_append, List.length_nil, Nat.zero_add, Nat.add_zero, List.append_nil, ev_some, putV]
  | cons x t ih =>
    intro p hb
    refine ev_succ.1 ?_
    have e1 : ((p.length : Int) ≤ ((p ++ x :: t).length : Int)) = True := eq_true (by simp; omega)
    have e2 : (p ++ x :: t).take ((p.length : Int)).toNat = p := by simp
    have e3 : (p ++ x :: t).drop ((p.length : Int)).toNat = x :: t := by simp
    have e4 : (p.length < 17592186044416) = True := eq_true (by simp at hb; omega)
    have e5 : ((p ++ [n]).length + (x :: t).length < 17592186044416) = True := eq_true (by simp at hb ⊢; omega)
    simp only [spec_l1Put.l0, c_lt, c_nn, c_rd, c_next p x t (by omega), Option.bind_some, if_true, e1, e2, e3, e4, e5, List.nil_append, List.length_nil, Nat.zero_add, ev_ite, ev_some]
    have h1 := ih (p ++ [x]) (by rwa [← c_app])
    rw [← c_app] at h1
    by_cases h : x < n
    · simpa [h, putV] using h1
    · by_cases h2 : x = n <;> simp [h, h2, putV]
theorem spec_l1Put_ev (l : List Int) (n : Int) (h : l.length ≤ 8796093022206) : Ev (fun k => spec_l1Put.f k l n) (putV l n) := spec_l1Put_loop n l [] h

theorem spec_l8Near_loop (v : Int) (n : Int) (t : List S47) : ∀ (p : List S47) (o : List Int), (∀ x ∈ t, (0 ≤ x.f0 ∧ x.f0 < n) ∧ 0 ≤ x.f1 ∧ x.f1 < n) → (p ++ t).length ≤ 1000000 → o.length ≤ 2 * p.length → (∀ y ∈ o, 0 ≤ y ∧ y < n) → ∃ r, Ev (fun k => spec_l8Near.l0 k v o (p ++ t) ((p ++ t).length : Int) (p.length : Int)) r ∧ r.length ≤ 2 * (p ++ t).length ∧ ∀ y ∈ r, 0 ≤ y ∧ y < n := by
  induction t with
  | nil =>
    intro p o _ _ ho hy
    refine ⟨o, ev_succ.1 ?_, by simpa using ho, hy⟩
    simp only [spec_l8Near.l0, c_end, Int.lt_irrefl, if_false, ev_some]
  | cons x t ih =>
    intro p o hx hb ho hy
    obtain ⟨⟨x0, x1⟩, x2, x3⟩ := hx x (by simp)
    have hpl : p.length ≤ 1000000 := by simp at hb; omega
    have hl0 := putV_length x.f1 o
    have hl1 := putV_length x.f0 (putV o x.f1)
    have hl2 := putV_length x.f0 o
    have m0 : ∀ y ∈ putV o x.f1, 0 ≤ y ∧ y < n := fun y h => by
      rcases (putV_mem _ _ _).1 h with rfl | h
      · exact ⟨x2, x3⟩
      · exact hy y h
    have m1 : ∀ y ∈ putV (putV o x.f1) x.f0, 0 ≤ y ∧ y < n := fun y h => by
      rcases (putV_mem _ _ _).1 h with rfl | h
      · exact ⟨x0, x1⟩
      · exact m0 y h
    have m2 : ∀ y ∈ putV o x.f0, 0 ≤ y ∧ y < n := fun y h => by
      rcases (putV_mem _ _ _).1 h with rfl | h
      · exact ⟨x0, x1⟩
      · exact hy y h
    have next : ∀ o' : List Int, o'.length ≤ 2 * (p ++ [x]).length → (∀ y ∈ o', 0 ≤ y ∧ y < n) → ∃ r, Ev (fun k => spec_l8Near.l0 k v o' (p ++ x :: t) ((p ++ x :: t).length : Int) ((p ++ [x]).length : Int)) r ∧ r.length ≤ 2 * (p ++ x :: t).length ∧ ∀ y ∈ r, 0 ≤ y ∧ y < n := fun o' h1 h2 => by
      have := ih (p ++ [x]) o' (fun y hy => hx y (by simp [hy])) (by rwa [← c_app]) h1 h2
      rwa [← c_app] at this
    by_cases h1 : x.f0 = v
    · by_cases h2 : x.f1 = v
      · obtain ⟨r, he, hr⟩ := next _ (by simp; omega) m1
        refine ⟨r, ev_succ.1 ?_, hr⟩
        simp only [spec_l8Near.l0, c_lt, c_nn, rdE_at, if_true, if_pos h1, if_pos h2, ev_bind (spec_l1Put_ev o x.f1 (by omega)), ev_bind (spec_l1Put_ev (putV o x.f1) x.f0 (by omega)), c_next p x t (by omega)]
        exact he
      · obtain ⟨r, he, hr⟩ := next _ (by simp; omega) m0
        refine ⟨r, ev_succ.1 ?_, hr⟩
        simp only [spec_l8Near.l0, c_lt, c_nn, rdE_at, if_true, if_pos h1, if_neg h2, ev_bind (spec_l1Put_ev o x.f1 (by omega)), c_next p x t (by omega)]
        exact he
    · by_cases h2 : x.f1 = v
      · obtain ⟨r, he, hr⟩ := next _ (by simp; omega) m2
        refine ⟨r, ev_succ.1 ?_, hr⟩
        simp only [spec_l8Near.l0, c_lt, c_nn, rdE_at, if_true, if_neg h1, if_pos h2, ev_bind (spec_l1Put_ev o x.f0 (by omega)), c_next p x t (by omega)]
        exact he
      · obtain ⟨r, he, hr⟩ := next o (by simp; omega) hy
        refine ⟨r, ev_succ.1 ?_, hr⟩
        simp only [spec_l8Near.l0, c_lt, c_nn, rdE_at, if_true, if_neg h1, if_neg h2, c_next p x t (by omega)]
        exact he
theorem spec_l8Near_ok (l : List S47) (v n : Int) (hx : ∀ x ∈ l, (0 ≤ x.f0 ∧ x.f0 < n) ∧ 0 ≤ x.f1 ∧ x.f1 < n) (hl : l.length ≤ 1000000) : ∃ r, Ev (fun k => spec_l8Near.f k l v) r ∧ r.length ≤ 2 * l.length ∧ ∀ y ∈ r, 0 ≤ y ∧ y < n :=
  spec_l8Near_loop v n l [] [] hx hl (by simp) (by simp)
theorem spec_l8Near_val (v : Int) (t : List S47) : ∀ (p : List S47) (o : List Int), (∀ x ∈ t, x.f0 < x.f1) → (p ++ t).length ≤ 1000000 → o.length ≤ 2 * p.length → Ev (fun k => spec_l8Near.l0 k v o (p ++ t) ((p ++ t).length : Int) (p.length : Int)) (nearP v (t.map trip) o) := by
  induction t with
  | nil =>
    intro p o _ _ _
    refine ev_succ.1 ?_
    simp only [spec_l8Near.l0, c_end, Int.lt_irrefl, if_false, ev_some, List.map_nil, nearP]
  | cons x t ih =>
    intro p o hx hb ho
    have hlt := hx x (by simp)
    have hpl : p.length ≤ 1000000 := by simp at hb; omega
    have next : ∀ o' : List Int, o'.length ≤ 2 * (p ++ [x]).length → Ev (fun k => spec_l8Near.l0 k v o' (p ++ x :: t) ((p ++ x :: t).length : Int) ((p ++ [x]).length : Int)) (nearP v (t.map trip) o') := fun o' h1 => by
      have := ih (p ++ [x]) o' (fun y hy => hx y (by simp [hy])) (by rwa [← c_app]) h1
      rwa [← c_app] at this
    have l1 := putV_length x.f1 o
    have l0 := putV_length x.f0 o
    refine ev_succ.1 ?_
    simp only [List.map_cons, nearP, trip]
    by_cases h1 : x.f0 = v
    · have h2 : ¬ x.f1 = v := by omega
      simp only [spec_l8Near.l0, c_lt, c_nn, rdE_at, if_true, if_pos h1, if_neg h2, ev_bind (spec_l1Put_ev o x.f1 (by omega)), c_next p x t (by omega)]
      exact next _ (by simp; omega)
    · by_cases h2 : x.f1 = v
      · simp only [spec_l8Near.l0, c_lt, c_nn, rdE_at, if_true, if_neg h1, if_pos h2, ev_bind (spec_l1Put_ev o x.f0 (by omega)), c_next p x t (by omega)]
        exact next _ (by simp; omega)
      · simp only [spec_l8Near.l0, c_lt, c_nn, rdE_at, if_true, if_neg h1, if_neg h2, c_next p x t (by omega)]
        exact next _ (by simp; omega)
theorem spec_l8Near_ev (n : Nat) (l : List S47) (v : Int) (hx : In3 n (l.map trip)) (hu : Once (l.map trip)) (hl : l.length ≤ 1000000) : Ev (fun k => spec_l8Near.f k l v) (nearF (l.map trip) v 0 n) := by
  have h := spec_l8Near_val v l [] [] (fun x hm => by have := hx (trip x) (List.mem_map_of_mem hm); simp only [trip] at this; omega) (by simpa using hl) (by simp)
  rw [nearP_eq hx hu] at h
  exact h

end Go.Proofs.Ythambdfgkfkcmaa.Pure
