/- What functions of the program answer, as plain functions: used by the laws of this claim. -/
import Derived.Test.YtfkjnpgpofcinaaB0
import Derived.Test.YtfkjnpgpofcinaaF8
import Derived.Test.YtfkjnpgpofcinaaB2
import Derived.Test.YtfkjnpgpofcinaaB7
import Derived.Test.YtfkjnpgpofcinaaQGraph
import Derived.Test.YtfkjnpgpofcinaaQTree
namespace Go.Proofs.Ytfkjnpgpofcinaa.Pure
open Go.RowKit Go.Proofs.Ytfkjnpgpofcinaa.P Go.Proofs.YtfkjnpgpofcinaaW.PrintWords Go.Proofs.Ytfkjnpgpofcinaa.Q
set_option linter.unusedVariables false
set_option linter.unusedSimpArgs false

theorem spec_l9Relax_loop (g : List Int) (t : List S148) : ∀ (p : List S148) (o : List Int), (∀ x ∈ t, (0 ≤ x.f0 ∧ x.f0 < (g.length : Int)) ∧ 0 ≤ x.f1 ∧ x.f1 < (g.length : Int)) → (p ++ t).length ≤ 1000000 → o.length = g.length → ∃ r, Ev (fun k => spec_l9Relax.l0 k g o (p ++ t) ((p ++ t).length : Int) (p.length : Int)) r ∧ r.length = g.length := by
  induction t with
  | nil =>
    intro p o _ _ ho
    refine ⟨o, ev_succ.1 ?_, ho⟩
    simp only [spec_l9Relax.l0, c_end, Int.lt_irrefl, if_false, ev_some]
  | cons x t ih =>
    intro p o hx hb ho
    obtain ⟨⟨x0, x1⟩, x2, x3⟩ := hx x (by simp)
    obtain ⟨r, he, hr⟩ := ih (p ++ [x]) ((o.set (x.f0 : Int).toNat (min (rd o x.f0) (wrap64 (rd g x.f1 + x.f2)))).set (x.f1 : Int).toNat (min (rd (o.set (x.f0 : Int).toNat (min (rd o x.f0) (wrap64 (rd g x.f1 + x.f2)))) x.f1) (wrap64 (rd g x.f0 + x.f2)))) (fun y hy => hx y (by simp [hy])) (by rwa [← c_app]) (by simp [ho])
    rw [← c_app] at he
    refine ⟨r, ev_succ.1 ?_, hr⟩
    simp only [spec_l9Relax.l0, c_lt, c_nn, rdE_at, if_true, ho, show (0 ≤ x.f0) = True from eq_true x0, show (x.f0 < (g.length : Int)) = True from eq_true x1, show (0 ≤ x.f1) = True from eq_true x2, show (x.f1 < (g.length : Int)) = True from eq_true x3, spec_l1Least_eq, Option.bind_some, c_next p x t (by omega)]
    exact he
theorem spec_l9Relax_ok (l : List S148) (g : List Int) (hx : ∀ x ∈ l, (0 ≤ x.f0 ∧ x.f0 < (g.length : Int)) ∧ 0 ≤ x.f1 ∧ x.f1 < (g.length : Int)) (hl : l.length ≤ 1000000) (hg : g.length ≤ 1000000) : ∃ r, Ev (fun k => spec_l9Relax.f k l g) r ∧ r.length = g.length := by
  obtain ⟨r, he, hr⟩ := spec_l9Relax_loop g l [] g hx hl rfl
  refine ⟨r, ?_, hr⟩
  unfold spec_l9Relax.f
  simp only [Option.bind_some, List.length_nil, Nat.zero_add, List.nil_append, show (g.length < 17592186044416) = True from eq_true (by omega), if_true]
  exact he

theorem spec_l9Fars_relax (n : Nat) (l : List S148) (hn : n ≤ 100) (hx : ∀ x ∈ l, (0 ≤ x.f0 ∧ x.f0 < (n : Int)) ∧ 0 ≤ x.f1 ∧ x.f1 < (n : Int)) (hl : l.length ≤ 1000000) : ∀ (m : Nat) (i : Int) (g : List Int), 0 ≤ i → i + m = max i n → g.length = n → ∃ r, Ev (fun k => spec_l9Fars.l1 k (n : Int) l g i) r ∧ r.length = n := by
  intro m
  induction m with
  | zero =>
    intro i g h0 hm hg
    refine ⟨g, ev_succ.1 ?_, hg⟩
    simp only [spec_l9Fars.l1, show (i < (n : Int)) = False from eq_false (by omega), if_false]
    exact Ev.now _
  | succ m ih =>
    intro i g h0 hm hg
    have hw : wrap64 (i + 1) = i + 1 := w64 (by omega) (by omega)
    obtain ⟨g2, e2, hg2⟩ := spec_l9Relax_ok l g (by rw [hg]; exact hx) hl (by omega)
    obtain ⟨r, he, hr⟩ := ih (i + 1) g2 (by omega) (by omega) (by omega)
    refine ⟨r, ev_succ.1 ?_, hr⟩
    simp only [spec_l9Fars.l1, show (i < (n : Int)) = True from eq_true (by omega), if_true, ev_bind e2, hw]
    exact he
theorem spec_l9Fars_loop (n : Nat) (l : List S148) (b : Int) (hn : n ≤ 100) (hb0 : 0 ≤ b) (hb1 : b < (n : Int)) (hx : ∀ x ∈ l, (0 ≤ x.f0 ∧ x.f0 < (n : Int)) ∧ 0 ≤ x.f1 ∧ x.f1 < (n : Int)) (hl : l.length ≤ 1000000) : ∀ (m : Nat) (g : List Int), g.length + m = n → ∃ r, Ev (fun k => spec_l9Fars.l0 k (n : Int) l b g (g.length : Int)) r ∧ r.length = n := by
  intro m
  induction m with
  | zero =>
    intro g hg
    obtain ⟨r, he, hr⟩ := spec_l9Fars_relax n l hn hx hl n 0 (g.set (b : Int).toNat 0) (by omega) (by omega) (by simp; omega)
    refine ⟨r, ev_succ.1 ?_, hr⟩
    simp only [spec_l9Fars.l0, show ((g.length : Int) < (n : Int)) = False from eq_false (by omega), if_false, show (0 ≤ b) = True from eq_true hb0, show (b < (g.length : Int)) = True from eq_true (by omega), if_true]
    exact he
  | succ m ih =>
    intro g hg
    have hw : wrap64 ((g.length : Int) + 1) = ((g ++ [100000]).length : Int) := by rw [w64 (by omega) (by omega)]; simp
    obtain ⟨r, he, hr⟩ := ih (g ++ [100000]) (by simp; omega)
    refine ⟨r, ev_succ.1 ?_, hr⟩
    simp only [spec_l9Fars.l0, show ((g.length : Int) < (n : Int)) = True from eq_true (by omega), if_true, show (g.length < 17592186044416) = True from eq_true (by omega), hw]
    exact he
theorem spec_l9Fars_ok (n : Nat) (l : List S148) (b : Int) (hn : n ≤ 100) (hb0 : 0 ≤ b) (hb1 : b < (n : Int)) (hx : ∀ x ∈ l, (0 ≤ x.f0 ∧ x.f0 < (n : Int)) ∧ 0 ≤ x.f1 ∧ x.f1 < (n : Int)) (hl : l.length ≤ 1000000) : ∃ r, Ev (fun k => spec_l9Fars.f k (n : Int) l b) r ∧ r.length = n :=
  spec_l9Fars_loop n l b hn hb0 hb1 hx hl n [] (by simp)

theorem spec_l8Near_loop (v : Int) (n : Int) (t : List S148) : ∀ (p : List S148) (o : List Int), (∀ x ∈ t, (0 ≤ x.f0 ∧ x.f0 < n) ∧ 0 ≤ x.f1 ∧ x.f1 < n) → (p ++ t).length ≤ 1000000 → o.length ≤ 2 * p.length → (∀ y ∈ o, 0 ≤ y ∧ y < n) → ∃ r, Ev (fun k => spec_l8Near.l0 k v o (p ++ t) ((p ++ t).length : Int) (p.length : Int)) r ∧ r.length ≤ 2 * (p ++ t).length ∧ ∀ y ∈ r, 0 ≤ y ∧ y < n := by
  induction t with
  | nil =>
    intro p o _ _ ho hy
    refine ⟨o, ev_succ.1 ?_, by simpa using ho, hy⟩
    simp only [spec_l8Near.l0, c_end, Int.lt_irrefl, if_false, ev_some]
  | cons x t ih =>
    intro p o hx hb ho hy
    obtain ⟨⟨x0, x1⟩, x2, x3⟩ := hx x (by simp)
    have hpl : p.length ≤ 1000000 := by simp at hb; omega
    have hl0 := putV_length x.f1 o
    have hl1 := putV_length x.f0 (putV o x.f1)
    have hl2 := putV_length x.f0 o
    have m0 : ∀ y ∈ putV o x.f1, 0 ≤ y ∧ y < n := fun y h => by
      rcases (putV_mem _ _ _).1 h with rfl | h
      · exact ⟨x2, x3⟩
      · exact hy y h
    have m1 : ∀ y ∈ putV (putV o x.f1) x.f0, 0 ≤ y ∧ y < n := fun y h => by
      rcases (putV_mem _ _ _).1 h with rfl | h
      · exact ⟨x0, x1⟩
      · exact m0 y h
    have m2 : ∀ y ∈ putV o x.f0, 0 ≤ y ∧ y < n := fun y h => by
      rcases (putV_mem _ _ _).1 h with rfl | h
      · exact ⟨x0, x1⟩
      · exact hy y h
    have next : ∀ o' : List Int, o'.length ≤ 2 * (p ++ [x]).length → (∀ y ∈ o', 0 ≤ y ∧ y < n) → ∃ r, Ev (fun k => spec_l8Near.l0 k v o' (p ++ x :: t) ((p ++ x :: t).length : Int) ((p ++ [x]).length : Int)) r ∧ r.length ≤ 2 * (p ++ x :: t).length ∧ ∀ y ∈ r, 0 ≤ y ∧ y < n := fun o' h1 h2 => by
      have := ih (p ++ [x]) o' (fun y hy => hx y (by simp [hy])) (by rwa [← c_app]) h1 h2
      rwa [← c_app] at this
    by_cases h1 : x.f0 = v
    · by_cases h2 : x.f1 = v
      · obtain ⟨r, he, hr⟩ := next _ (by simp; omega) m1
        refine ⟨r, ev_succ.1 ?_, hr⟩
        simp only [spec_l8Near.l0, c_lt, c_nn, rdE_at, if_true, if_pos h1, if_pos h2, ev_bind (spec_l1Put_ev o x.f1 (by omega)), ev_bind (spec_l1Put_ev (putV o x.f1) x.f0 (by omega)), c_next p x t (by omega)]
        exact he
      · obtain ⟨r, he, hr⟩ := next _ (by simp; omega) m0
        refine ⟨r, ev_succ.1 ?_, hr⟩
        simp only [spec_l8Near.l0, c_lt, c_nn, rdE_at, if_true, if_pos h1, if_neg h2, ev_bind (spec_l1Put_ev o x.f1 (by omega)), c_next p x t (by omega)]
        exact he
    · by_cases h2 : x.f1 = v
      · obtain ⟨r, he, hr⟩ := next _ (by simp; omega) m2
        refine ⟨r, ev_succ.1 ?_, hr⟩
        simp only [spec_l8Near.l0, c_lt, c_nn, rdE_at, if_true, if_neg h1, if_pos h2, ev_bind (spec_l1Put_ev o x.f0 (by omega)), c_next p x t (by omega)]
        exact he
      · obtain ⟨r, he, hr⟩ := next o (by simp; omega) hy
        refine ⟨r, ev_succ.1 ?_, hr⟩
        simp only [spec_l8Near.l0, c_lt, c_nn, rdE_at, if_true, if_neg h1, if_neg h2, c_next p x t (by omega)]
        exact he
theorem spec_l8Near_ok (l : List S148) (v n : Int) (hx : ∀ x ∈ l, (0 ≤ x.f0 ∧ x.f0 < n) ∧ 0 ≤ x.f1 ∧ x.f1 < n) (hl : l.length ≤ 1000000) : ∃ r, Ev (fun k => spec_l8Near.f k l v) r ∧ r.length ≤ 2 * l.length ∧ ∀ y ∈ r, 0 ≤ y ∧ y < n :=
  spec_l8Near_loop v n l [] [] hx hl (by simp) (by simp)

theorem spec_l9Edge_loop (a b : Int) (t : List S148) : ∀ p : List S148, (∀ x ∈ t, x.f0 < x.f1) → (p ++ t).length ≤ 9223372036854775806 → Ev (fun k => spec_l9Edge.l0 k a b (p ++ t) ((p ++ t).length : Int) (p.length : Int)) (costV (t.map trip) a b) := by
  induction t with
  | nil =>
    intro p _ _
    refine ev_succ.1 ?_
    simp only [spec_l9Edge.l0, c_end, Int.lt_irrefl, if_false, ev_some]
    rfl
  | cons x t ih =>
    intro p ho hb
    refine ev_succ.1 ?_
    have hn := ih (p ++ [x]) (fun y hy => ho y (by simp [hy])) (by rwa [← c_app])
    rw [← c_app] at hn
    have hx := ho x (by simp)
    simp only [spec_l9Edge.l0, c_lt, c_nn, rdE_at, c_next p x t hb, if_true, ev_ite, ev_some, List.map_cons, costV]
    by_cases h0 : x.f0 = min a b ∧ x.f1 = max a b
    · have hc : (x.f0 = a ∧ x.f1 = b) ∨ (x.f0 = b ∧ x.f1 = a) := by omega
      have hr : (if (trip x).1 = min a b ∧ (trip x).2.1 = max a b then (trip x).2.2 else costV (t.map trip) a b) = x.f2 := if_pos h0
      rw [hr]
      rcases hc with ⟨h1, h2⟩ | ⟨h1, h2⟩
      · simp [h1, h2]
      · have h3 : ¬ b = a := by omega
        simp [h1, h2, h3]
    · have h1 : ¬ (x.f0 = a ∧ x.f1 = b) := by omega
      have h2 : ¬ (x.f0 = b ∧ x.f1 = a) := by omega
      have hr : (if (trip x).1 = min a b ∧ (trip x).2.1 = max a b then (trip x).2.2 else costV (t.map trip) a b) = costV (t.map trip) a b := if_neg h0
      rw [hr]
      by_cases h3 : x.f0 = a
      · have h4 : ¬ x.f1 = b := fun h => h1 ⟨h3, h⟩
        by_cases h5 : a = b
        · have h6 : ¬ x.f1 = a := by omega
          simpa [h3, h4, h5, h6] using hn
        · simpa [h3, h4, h5] using hn
      · by_cases h5 : x.f0 = b
        · have h6 : ¬ x.f1 = a := fun h => h2 ⟨h5, h⟩
          have h7 : ¬ b = a := by omega
          simpa [h5, h6, h7] using hn
        · simpa [h3, h5] using hn
theorem spec_l9Edge_ev (l : List S148) (a b : Int) (ho : ∀ x ∈ l, x.f0 < x.f1) (h : l.length ≤ 9223372036854775806) : Ev (fun k => spec_l9Edge.f k l a b) (costV (l.map trip) a b) := spec_l9Edge_loop a b l [] ho h

end Go.Proofs.Ytfkjnpgpofcinaa.Pure
