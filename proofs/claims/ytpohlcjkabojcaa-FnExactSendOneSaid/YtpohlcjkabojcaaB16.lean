/- What functions of the program answer, as plain functions: used by the laws of this claim. -/
import Derived.Test.YtpohlcjkabojcaaB0
import Derived.Test.YtpohlcjkabojcaaF16
import Derived.Test.YtpohlcjkabojcaaB1
import Derived.Test.YtpohlcjkabojcaaB11
import Derived.Test.YtpohlcjkabojcaaQNear
import Derived.Test.YtpohlcjkabojcaaQShort
import Derived.Test.YtpohlcjkabojcaaQTree
import Derived.Test.YtpohlcjkabojcaaQWay
namespace Go.Proofs.Ytpohlcjkabojcaa.Pure
open Go.RowKit Go.Proofs.Ytpohlcjkabojcaa.P Go.Proofs.YtpohlcjkabojcaaW.PrintWords Go.Proofs.Ytpohlcjkabojcaa.Q
set_option linter.unusedVariables false
set_option linter.unusedSimpArgs false

theorem spec_l9Two_ev (n : Nat) (l : List S86) (a b : Int) (hn : n ≤ 1000) (hl : l.length ≤ 1000000) (hg : goodE (n : Int) (l.map trip) = true) (a0 : 0 ≤ a) (a1 : a < (n : Int)) (b0 : 0 ≤ b) (b1 : b < (n : Int)) : Ev (fun k => spec_l9Two.f k (n : Int) l a b) true := by
  have e1 : inB 0 ((n : Int) - 1) a = true := inB_iff.2 (by omega)
  have e2 : inB 0 ((n : Int) - 1) b = true := inB_iff.2 (by omega)
  unfold spec_l9Two.f
  simp only [ev_bind (spec_GoodEdges_ev (n : Int) l (by omega)), hg, if_true, w64 (n := (n : Int) - 1) (by omega) (by omega), spec_l1In_eq, Option.bind_some, e1, e2]
  exact Ev.now _

theorem spec_l9Relax_loop (g : List Int) (t : List S86) : ∀ (p : List S86) (o : List Int), (∀ x ∈ t, (0 ≤ x.f0 ∧ x.f0 < (g.length : Int)) ∧ 0 ≤ x.f1 ∧ x.f1 < (g.length : Int)) → (p ++ t).length ≤ 1000000 → o.length = g.length → ∃ r, Ev (fun k => spec_l9Relax.l0 k g o (p ++ t) ((p ++ t).length : Int) (p.length : Int)) r ∧ r.length = g.length := by
  induction t with
  | nil =>
    intro p o _ _ ho
    refine ⟨o, ev_succ.1 ?_, ho⟩
    simp only [spec_l9Relax.l0, c_end, Int.lt_irrefl, if_false, ev_some]
  | cons x t ih =>
    intro p o hx hb ho
    obtain ⟨⟨x0, x1⟩, x2, x3⟩ := hx x (by simp)
    obtain ⟨r, he, hr⟩ := ih (p ++ [x]) ((o.set (x.f0 : Int).toNat (min (rd o x.f0) (wrap64 (rd g x.f1 + x.f2)))).set (x.f1 : Int).toNat (min (rd (o.set (x.f0 : Int).toNat (min (rd o x.f0) (wrap64 (rd g x.f1 + x.f2)))) x.f1) (wrap64 (rd g x.f0 + x.f2)))) (fun y hy => hx y (by simp [hy])) (by rwa [← c_app]) (by simp [ho])
    rw [← c_app] at he
    refine ⟨r, ev_succ.1 ?_, hr⟩
    simp only [spec_l9Relax.l0, c_lt, c_nn, rdE_at, if_true, ho, show (0 ≤ x.f0) = True from eq_true x0, show (x.f0 < (g.length : Int)) = True from eq_true x1, show (0 ≤ x.f1) = True from eq_true x2, show (x.f1 < (g.length : Int)) = True from eq_true x3, spec_l1Least_eq, Option.bind_some, c_next p x t (by omega)]
    exact he
theorem spec_l9Relax_ok (l : List S86) (g : List Int) (hx : ∀ x ∈ l, (0 ≤ x.f0 ∧ x.f0 < (g.length : Int)) ∧ 0 ≤ x.f1 ∧ x.f1 < (g.length : Int)) (hl : l.length ≤ 1000000) (hg : g.length ≤ 1000000) : ∃ r, Ev (fun k => spec_l9Relax.f k l g) r ∧ r.length = g.length := by
  obtain ⟨r, he, hr⟩ := spec_l9Relax_loop g l [] g hx hl rfl
  refine ⟨r, ?_, hr⟩
  unfold spec_l9Relax.f
  simp only [Option.bind_some, List.length_nil, Nat.zero_add, List.nil_append, show (g.length < 17592186044416) = True from eq_true (by omega), if_true]
  exact he
theorem spec_l9Relax_val (n : Nat) (g : List Int) (hg : g.length = n) (hlow : ∀ v : Int, 0 ≤ v → v < (n : Int) → 0 ≤ rd g v ∧ rd g v ≤ 100000) (t : List S86) : ∀ (p : List S86) (o : List Int), In3 n (t.map trip) → (p ++ t).length ≤ 1000000 → o.length = n → Ev (fun k => spec_l9Relax.l0 k g o (p ++ t) ((p ++ t).length : Int) (p.length : Int)) (rlxs g (t.map trip) o) := by
  induction t with
  | nil =>
    intro p o _ _ _
    refine ev_succ.1 ?_
    simp only [spec_l9Relax.l0, c_end, Int.lt_irrefl, if_false, ev_some, List.map_nil]
    rfl
  | cons x t ih =>
    intro p o hx hb ho
    have h1 := hx (trip x) (by simp)
    simp only [trip] at h1
    have b1 := hlow x.f1 (by omega) (by omega)
    have b0 := hlow x.f0 (by omega) (by omega)
    have w1 : wrap64 (rd g x.f1 + x.f2) = rd g x.f1 + x.f2 := w64 (by omega) (by omega)
    have w0 : wrap64 (rd g x.f0 + x.f2) = rd g x.f0 + x.f2 := w64 (by omega) (by omega)
    have hn := ih (p ++ [x]) (rlx g o (trip x)) (fun e he => hx e (by simp [he])) (by rwa [← c_app]) (by rw [rlx_length]; exact ho)
    rw [← c_app] at hn
    refine ev_succ.1 ?_
    simp only [spec_l9Relax.l0, c_lt, c_nn, rdE_at, if_true, ho, hg, Option.bind_some, show (0 ≤ x.f0) = True from eq_true h1.1, show (x.f0 < (n : Int)) = True from eq_true (by omega), show (0 ≤ x.f1) = True from eq_true (by omega), show (x.f1 < (n : Int)) = True from eq_true h1.2.2.1, spec_l1Least_eq, w0, w1, c_next p x t (by omega)]
    exact hn
theorem spec_l9Relax_ev (n : Nat) (l : List S86) (g : List Int) (hx : In3 n (l.map trip)) (hl : l.length ≤ 1000) (hn : n ≤ 1000) (hg : g.length = n) (hlow : ∀ v : Int, 0 ≤ v → v < (n : Int) → 0 ≤ rd g v ∧ rd g v ≤ 100000) : Ev (fun k => spec_l9Relax.f k l g) (relaxV (l.map trip) g) := by
  have h := spec_l9Relax_val n g hg hlow l [] g hx (by simp; omega) hg
  unfold spec_l9Relax.f
  simp only [Option.bind_some, List.length_nil, Nat.zero_add, List.nil_append, show (g.length < 17592186044416) = True from eq_true (by omega), if_true]
  exact h

theorem spec_l9Fars_relax (n : Nat) (l : List S86) (hn : n ≤ 100) (hx : ∀ x ∈ l, (0 ≤ x.f0 ∧ x.f0 < (n : Int)) ∧ 0 ≤ x.f1 ∧ x.f1 < (n : Int)) (hl : l.length ≤ 1000000) : ∀ (m : Nat) (i : Int) (g : List Int), 0 ≤ i → i + m = max i n → g.length = n → ∃ r, Ev (fun k => spec_l9Fars.l1 k (n : Int) l g i) r ∧ r.length = n := by
  intro m
  induction m with
  | zero =>
    intro i g h0 hm hg
    refine ⟨g, ev_succ.1 ?_, hg⟩
    simp only [spec_l9Fars.l1, show (i < (n : Int)) = False from eq_false (by omega), if_false]
    exact Ev.now _
  | succ m ih =>
    intro i g h0 hm hg
    have hw : wrap64 (i + 1) = i + 1 := w64 (by omega) (by omega)
    obtain ⟨g2, e2, hg2⟩ := spec_l9Relax_ok l g (by rw [hg]; exact hx) hl (by omega)
    obtain ⟨r, he, hr⟩ := ih (i + 1) g2 (by omega) (by omega) (by omega)
    refine ⟨r, ev_succ.1 ?_, hr⟩
    simp only [spec_l9Fars.l1, show (i < (n : Int)) = True from eq_true (by omega), if_true, ev_bind e2, hw]
    exact he
theorem spec_l9Fars_loop (n : Nat) (l : List S86) (b : Int) (hn : n ≤ 100) (hb0 : 0 ≤ b) (hb1 : b < (n : Int)) (hx : ∀ x ∈ l, (0 ≤ x.f0 ∧ x.f0 < (n : Int)) ∧ 0 ≤ x.f1 ∧ x.f1 < (n : Int)) (hl : l.length ≤ 1000000) : ∀ (m : Nat) (g : List Int), g.length + m = n → ∃ r, Ev (fun k => spec_l9Fars.l0 k (n : Int) l b g (g.length : Int)) r ∧ r.length = n := by
  intro m
  induction m with
  | zero =>
    intro g hg
    obtain ⟨r, he, hr⟩ := spec_l9Fars_relax n l hn hx hl n 0 (g.set (b : Int).toNat 0) (by omega) (by omega) (by simp; omega)
    refine ⟨r, ev_succ.1 ?_, hr⟩
    simp only [spec_l9Fars.l0, show ((g.length : Int) < (n : Int)) = False from eq_false (by omega), if_false, show (0 ≤ b) = True from eq_true hb0, show (b < (g.length : Int)) = True from eq_true (by omega), if_true]
    exact he
  | succ m ih =>
    intro g hg
    have hw : wrap64 ((g.length : Int) + 1) = ((g ++ [100000]).length : Int) := by rw [w64 (by omega) (by omega)]; simp
    obtain ⟨r, he, hr⟩ := ih (g ++ [100000]) (by simp; omega)
    refine ⟨r, ev_succ.1 ?_, hr⟩
    simp only [spec_l9Fars.l0, show ((g.length : Int) < (n : Int)) = True from eq_true (by omega), if_true, show (g.length < 17592186044416) = True from eq_true (by omega), hw]
    exact he
theorem spec_l9Fars_ok (n : Nat) (l : List S86) (b : Int) (hn : n ≤ 100) (hb0 : 0 ≤ b) (hb1 : b < (n : Int)) (hx : ∀ x ∈ l, (0 ≤ x.f0 ∧ x.f0 < (n : Int)) ∧ 0 ≤ x.f1 ∧ x.f1 < (n : Int)) (hl : l.length ≤ 1000000) : ∃ r, Ev (fun k => spec_l9Fars.f k (n : Int) l b) r ∧ r.length = n :=
  spec_l9Fars_loop n l b hn hb0 hb1 hx hl n [] (by simp)
theorem spec_l9Fars_rounds (n : Nat) (l : List S86) (b : Int) (hx : In3 n (l.map trip)) (hl : l.length ≤ 1000) (hn : n ≤ 1000) (b0 : 0 ≤ b) (b1 : b < (n : Int)) : ∀ (d i : Nat) (g : List Int), i + d = n → Fars n (l.map trip) b g → Ev (fun k => spec_l9Fars.l1 k (n : Int) l g (i : Int)) (farsN (l.map trip) d g) := by
  intro d
  induction d with
  | zero =>
    intro i g hi hg
    refine ev_succ.1 ?_
    simp only [spec_l9Fars.l1, show ((i : Int) < (n : Int)) = False from eq_false (by omega), if_false, farsN]
    exact Ev.now _
  | succ d ih =>
    intro i g hi hg
    refine ev_succ.1 ?_
    simp only [spec_l9Fars.l1, show ((i : Int) < (n : Int)) = True from eq_true (by omega), if_true, ev_bind (spec_l9Relax_ev n l g hx hl hn hg.len hg.low), w64 (n := (i : Int) + 1) (by omega) (by omega), farsN]
    exact ih (i + 1) _ (by omega) (fars_relax hx b0 b1 hg)
theorem spec_l9Fars_fill (n : Nat) (l : List S86) (b : Int) (hx : In3 n (l.map trip)) (hl : l.length ≤ 1000) (hn : n ≤ 1000) (b0 : 0 ≤ b) (b1 : b < (n : Int)) : ∀ (d i : Nat), i + d = n → Ev (fun k => spec_l9Fars.l0 k (n : Int) l b (List.replicate i 100000) (i : Int)) (farsV n (l.map trip) b) := by
  intro d
  induction d with
  | zero =>
    intro i hi
    obtain rfl : i = n := by omega
    refine ev_succ.1 ?_
    simp only [spec_l9Fars.l0, Int.lt_irrefl, if_false, List.length_replicate, show (0 ≤ b) = True from eq_true b0, show (b < (i : Int)) = True from eq_true b1, if_true]
    exact spec_l9Fars_rounds i l b hx hl hn b0 b1 i 0 _ (by omega) (fars_start b0 b1)
  | succ d ih =>
    intro i hi
    refine ev_succ.1 ?_
    simp only [spec_l9Fars.l0, show ((i : Int) < (n : Int)) = True from eq_true (by omega), if_true, List.length_replicate, show (i < 17592186044416) = True from eq_true (by omega), w64 (n := (i : Int) + 1) (by omega) (by omega), ← List.replicate_succ']
    exact ih (i + 1) (by omega)
theorem spec_l9Fars_ev (n : Nat) (l : List S86) (b : Int) (hx : In3 n (l.map trip)) (hl : l.length ≤ 1000) (hn : n ≤ 1000) (b0 : 0 ≤ b) (b1 : b < (n : Int)) : Ev (fun k => spec_l9Fars.f k (n : Int) l b) (farsV n (l.map trip) b) :=
  spec_l9Fars_fill n l b hx hl hn b0 b1 n 0 (by omega)

-- needs QTree
theorem spec_l1Put_loop (n : Int) (t : List Int) : ∀ p : List Int, (p ++ t).length ≤ 8796093022206 → Ev (fun k => spec_l1Put.l0 k (p ++ t) n (p.length : Int)) (p ++ putV t n) := by
  induction t with
  | nil =>
    intro p hb
    refine ev_succ.1 ?_
    rw [List.append_nil]
    have e1 : ((p.length : Int) ≤ (p.length : Int)) = True := eq_true (Int.le_refl _)
    have e2 : p.take ((p.length : Int)).toNat = p := by simp
    have e3 : p.drop ((p.length : Int)).toNat = [] := by simp
    have e4 : (p.length < 17592186044416) = True := eq_true (by simp at hb; omega)
    have e5 : ((p ++ [n]).length < 17592186044416) = True := eq_true (by simp at hb ⊢; omega)
    simp only [spec_l1Put.l0, c_end, Int.lt_irrefl, if_false, Option.bind_some, c_nn, if_true, e1, e2, e3, e4, e5, List.nil_append, List.length_nil, Nat.zero_add, Nat.add_zero, List.append_nil, ev_some, putV]
  | cons x t ih =>
    intro p hb
    refine ev_succ.1 ?_
    have e1 : ((p.length : Int) ≤ ((p ++ x :: t).length : Int)) = True := eq_true (by simp; omega)
    have e2 : (p ++ x :: t).take ((p.length : Int)).toNat = p := by simp
    have e3 : (p ++ x :: t).drop ((p.length : Int)).toNat = x :: t := by simp
    have e4 : (p.length < 17592186044416) = True := eq_true (by simp at hb; omega)
    have e5 : ((p ++ [n]).length + (x :: t).length < 17592186044416) = True := eq_true (by simp at hb ⊢; omega)
    simp only [spec_l1Put.l0, c_lt, c_nn, c_rd, c_next p x t (by omega), Option.bind_some, if_true, e1, e2, e3, e4, e5, List.nil_append, List.length_nil, Nat.zero_add, ev_ite, ev_some]
    have h1 := ih (p ++ [x]) (by rwa [← c_app])
    rw [← c_app] at h1
    by_cases h : x < n
    · simpa [h, putV] using h1
    · by_cases h2 : x = n <;> simp [h, h2, putV]
theorem spec_l1Put_ev (l : List Int) (n : Int) (h : l.length ≤ 8796093022206) : Ev (fun k => spec_l1Put.f k l n) (putV l n) := spec_l1Put_loop n l [] h

theorem spec_l8Near_loop (v : Int) (n : Int) (t : List S86) : ∀ (p : List S86) (o : List Int), (∀ x ∈ t, (0 ≤ x.f0 ∧ x.f0 < n) ∧ 0 ≤ x.f1 ∧ x.f1 < n) → (p ++ t).length ≤ 1000000 → o.length ≤ 2 * p.length → (∀ y ∈ o, 0 ≤ y ∧ y < n) → ∃ r, Ev (fun k => spec_l8Near.l0 k v o (p ++ t) ((p ++ t).length : Int) (p.length : Int)) r ∧ r.length ≤ 2 * (p ++ t).length ∧ ∀ y ∈ r, 0 ≤ y ∧ y < n := by
  induction t with
  | nil =>
    intro p o _ _ ho hy
    refine ⟨o, ev_succ.1 ?_, by simpa using ho, hy⟩
    simp only [spec_l8Near.l0, c_end, Int.lt_irrefl, if_false, ev_some]
  | cons x t ih =>
    intro p o hx hb ho hy
    obtain ⟨⟨x0, x1⟩, x2, x3⟩ := hx x (by simp)
    have hpl : p.length ≤ 1000000 := by simp at hb; omega
    have hl0 := putV_length x.f1 o
    have hl1 := putV_length x.f0 (putV o x.f1)
    have hl2 := putV_length x.f0 o
    have m0 : ∀ y ∈ putV o x.f1, 0 ≤ y ∧ y < n := fun y h => by
      rcases (putV_mem _ _ _).1 h with rfl | h
      · exact ⟨x2, x3⟩
      · exact hy y h
    have m1 : ∀ y ∈ putV (putV o x.f1) x.f0, 0 ≤ y ∧ y < n := fun y h => by
      rcases (putV_mem _ _ _).1 h with rfl | h
      · exact ⟨x0, x1⟩
      · exact m0 y h
    have m2 : ∀ y ∈ putV o x.f0, 0 ≤ y ∧ y < n := fun y h => by
      rcases (putV_mem _ _ _).1 h with rfl | h
      · exact ⟨x0, x1⟩
      · exact hy y h
    have next : ∀ o' : List Int, o'.length ≤ 2 * (p ++ [x]).length → (∀ y ∈ o', 0 ≤ y ∧ y < n) → ∃ r, Ev (fun k => spec_l8Near.l0 k v o' (p ++ x :: t) ((p ++ x :: t).length : Int) ((p ++ [x]).length : Int)) r ∧ r.length ≤ 2 * (p ++ x :: t).length ∧ ∀ y ∈ r, 0 ≤ y ∧ y < n := fun o' h1 h2 => by
      have := ih (p ++ [x]) o' (fun y hy => hx y (by simp [hy])) (by rwa [← c_app]) h1 h2
      rwa [← c_app] at this
    by_cases h1 : x.f0 = v
    · by_cases h2 : x.f1 = v
      · obtain ⟨r, he, hr⟩ := next _ (by simp; omega) m1
        refine ⟨r, ev_succ.1 ?_, hr⟩
        simp only [spec_l8Near.l0, c_lt, c_nn, rdE_at, if_true, if_pos h1, if_pos h2, ev_bind (spec_l1Put_ev o x.f1 (by omega)), ev_bind (spec_l1Put_ev (putV o x.f1) x.f0 (by omega)), c_next p x t (by omega)]
        exact he
      · obtain ⟨r, he, hr⟩ := next _ (by simp; omega) m0
        refine ⟨r, ev_succ.1 ?_, hr⟩
        simp only [spec_l8Near.l0, c_lt, c_nn, rdE_at, if_true, if_pos h1, if_neg h2, ev_bind (spec_l1Put_ev o x.f1 (by omega)), c_next p x t (by omega)]
        exact he
    · by_cases h2 : x.f1 = v
      · obtain ⟨r, he, hr⟩ := next _ (by simp; omega) m2
        refine ⟨r, ev_succ.1 ?_, hr⟩
        simp only [spec_l8Near.l0, c_lt, c_nn, rdE_at, if_true, if_neg h1, if_pos h2, ev_bind (spec_l1Put_ev o x.f0 (by omega)), c_next p x t (by omega)]
        exact he
      · obtain ⟨r, he, hr⟩ := next o (by simp; omega) hy
        refine ⟨r, ev_succ.1 ?_, hr⟩
        simp only [spec_l8Near.l0, c_lt, c_nn, rdE_at, if_true, if_neg h1, if_neg h2, c_next p x t (by omega)]
        exact he
theorem spec_l8Near_ok (l : List S86) (v n : Int) (hx : ∀ x ∈ l, (0 ≤ x.f0 ∧ x.f0 < n) ∧ 0 ≤ x.f1 ∧ x.f1 < n) (hl : l.length ≤ 1000000) : ∃ r, Ev (fun k => spec_l8Near.f k l v) r ∧ r.length ≤ 2 * l.length ∧ ∀ y ∈ r, 0 ≤ y ∧ y < n :=
  spec_l8Near_loop v n l [] [] hx hl (by simp) (by simp)
theorem spec_l8Near_val (v : Int) (t : List S86) : ∀ (p : List S86) (o : List Int), (∀ x ∈ t, x.f0 < x.f1) → (p ++ t).length ≤ 1000000 → o.length ≤ 2 * p.length → Ev (fun k => spec_l8Near.l0 k v o (p ++ t) ((p ++ t).length : Int) (p.length : Int)) (nearP v (t.map trip) o) := by
  induction t with
  | nil =>
    intro p o _ _ _
    refine ev_succ.1 ?_
    simp only [spec_l8Near.l0, c_end, Int.lt_irrefl, if_false, ev_some, List.map_nil, nearP]
  | cons x t ih =>
    intro p o hx hb ho
    have hlt := hx x (by simp)
    have hpl : p.length ≤ 1000000 := by simp at hb; omega
    have next : ∀ o' : List Int, o'.length ≤ 2 * (p ++ [x]).length → Ev (fun k => spec_l8Near.l0 k v o' (p ++ x :: t) ((p ++ x :: t).length : Int) ((p ++ [x]).length : Int)) (nearP v (t.map trip) o') := fun o' h1 => by
      have := ih (p ++ [x]) o' (fun y hy => hx y (by simp [hy])) (by rwa [← c_app]) h1
      rwa [← c_app] at this
    have l1 := putV_length x.f1 o
    have l0 := putV_length x.f0 o
    refine ev_succ.1 ?_
    simp only [List.map_cons, nearP, trip]
    by_cases h1 : x.f0 = v
    · have h2 : ¬ x.f1 = v := by omega
      simp only [spec_l8Near.l0, c_lt, c_nn, rdE_at, if_true, if_pos h1, if_neg h2, ev_bind (spec_l1Put_ev o x.f1 (by omega)), c_next p x t (by omega)]
      exact next _ (by simp; omega)
    · by_cases h2 : x.f1 = v
      · simp only [spec_l8Near.l0, c_lt, c_nn, rdE_at, if_true, if_neg h1, if_pos h2, ev_bind (spec_l1Put_ev o x.f0 (by omega)), c_next p x t (by omega)]
        exact next _ (by simp; omega)
      · simp only [spec_l8Near.l0, c_lt, c_nn, rdE_at, if_true, if_neg h1, if_neg h2, c_next p x t (by omega)]
        exact next _ (by simp; omega)
theorem spec_l8Near_ev (n : Nat) (l : List S86) (v : Int) (hx : In3 n (l.map trip)) (hu : Once (l.map trip)) (hl : l.length ≤ 1000000) : Ev (fun k => spec_l8Near.f k l v) (nearF (l.map trip) v 0 n) := by
  have h := spec_l8Near_val v l [] [] (fun x hm => by have := hx (trip x) (List.mem_map_of_mem hm); simp only [trip] at this; omega) (by simpa using hl) (by simp)
  rw [nearP_eq hx hu] at h
  exact h

end Go.Proofs.Ytpohlcjkabojcaa.Pure
