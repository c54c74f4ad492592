/- What functions of the program answer, as plain functions: used by the laws of this claim. -/
import Derived.Test.YtpohlcjkabojcaaB0
import Derived.Test.YtpohlcjkabojcaaF12
import Derived.Test.YtpohlcjkabojcaaQGraph
import Derived.Test.YtpohlcjkabojcaaQShort
import Derived.Test.YtpohlcjkabojcaaQWay
namespace Go.Proofs.Ytpohlcjkabojcaa.Pure
open Go.RowKit Go.Proofs.Ytpohlcjkabojcaa.P Go.Proofs.YtpohlcjkabojcaaW.PrintWords Go.Proofs.Ytpohlcjkabojcaa.Q
set_option linter.unusedVariables false
set_option linter.unusedSimpArgs false

theorem impl_relaxed_loop (n : Nat) (g : List Int) (hg : g.length = n) (hlow : ∀ v : Int, 0 ≤ v → v < (n : Int) → 0 ≤ rd g v ∧ rd g v ≤ 100000) (t : List S86) : ∀ (p : List S86) (o : List Int), In3 n (t.map trip) → (p ++ t).length ≤ 1000000 → o.length = n → Ev (fun k => impl_relaxed.l0 k g o (p ++ t) ((p ++ t).length : Int) (p.length : Int)) (rlxs g (t.map trip) o) := by
  have hmn : ∀ a b : Int, mn a b = min a b := fun a b => by unfold mn; split <;> omega
  induction t with
  | nil =>
    intro p o _ _ _
    refine ev_succ.1 ?_
    simp only [impl_relaxed.l0, c_end, Int.lt_irrefl, if_false, ev_some, List.map_nil]
    rfl
  | cons x t ih =>
    intro p o hx hb ho
    have h1 := hx (trip x) (by simp)
    simp only [trip] at h1
    have b1 := hlow x.f1 (by omega) (by omega)
    have b0 := hlow x.f0 (by omega) (by omega)
    have w1 : wrap64 (rd g x.f1 + x.f2) = rd g x.f1 + x.f2 := w64 (by omega) (by omega)
    have w0 : wrap64 (rd g x.f0 + x.f2) = rd g x.f0 + x.f2 := w64 (by omega) (by omega)
    have hn := ih (p ++ [x]) (rlx g o (trip x)) (fun e he => hx e (by simp [he])) (by rwa [← c_app]) (by rw [rlx_length]; exact ho)
    rw [← c_app] at hn
    refine ev_succ.1 ?_
    simp only [impl_relaxed.l0, c_lt, c_nn, rdE_at, if_true, ho, hg, Option.bind_some, show (0 ≤ x.f0) = True from eq_true h1.1, show (x.f0 < (n : Int)) = True from eq_true (by omega), show (0 ≤ x.f1) = True from eq_true (by omega), show (x.f1 < (n : Int)) = True from eq_true h1.2.2.1, hmn, w0, w1, c_next p x t (by omega)]
    exact hn
theorem impl_relaxed_ev (n : Nat) (l : List S86) (g : List Int) (hx : In3 n (l.map trip)) (hl : l.length ≤ 1000) (hn : n ≤ 1000) (hg : g.length = n) (hlow : ∀ v : Int, 0 ≤ v → v < (n : Int) → 0 ≤ rd g v ∧ rd g v ≤ 100000) : Ev (fun k => impl_relaxed.f k l g) (relaxV (l.map trip) g) := by
  have h := impl_relaxed_loop n g hg hlow l [] g hx (by simp; omega) hg
  unfold impl_relaxed.f
  simp only [Option.bind_some, List.length_nil, Nat.zero_add, List.nil_append, show (g.length < 17592186044416) = True from eq_true (by omega), if_true]
  exact h

theorem impl_fars_rounds (n : Nat) (l : List S86) (b : Int) (hx : In3 n (l.map trip)) (hl : l.length ≤ 1000) (hn : n ≤ 1000) (b0 : 0 ≤ b) (b1 : b < (n : Int)) : ∀ (d i : Nat) (g : List Int), i + d = n → Fars n (l.map trip) b g → Ev (fun k => impl_fars.l1 k l g (n : Int) (i : Int)) (farsN (l.map trip) d g) := by
  intro d
  induction d with
  | zero =>
    intro i g hi hg
    refine ev_succ.1 ?_
    simp only [impl_fars.l1, show ((i : Int) < (n : Int)) = False from eq_false (by omega), if_false, farsN]
    exact Ev.now _
  | succ d ih =>
    intro i g hi hg
    refine ev_succ.1 ?_
    simp only [impl_fars.l1, show ((i : Int) < (n : Int)) = True from eq_true (by omega), if_true, ev_bind (impl_relaxed_ev n l g hx hl hn hg.len hg.low), w64 (n := (i : Int) + 1) (by omega) (by omega), farsN]
    exact ih (i + 1) _ (by omega) (fars_relax hx b0 b1 hg)
theorem impl_fars_fill (n : Nat) (l : List S86) (b : Int) (hx : In3 n (l.map trip)) (hl : l.length ≤ 1000) (hn : n ≤ 1000) (b0 : 0 ≤ b) (b1 : b < (n : Int)) : ∀ (d i : Nat), i + d = n → Ev (fun k => impl_fars.l0 k (n : Int) l b (List.replicate i 100000 ++ List.replicate d 0) (n : Int) (i : Int)) (farsV n (l.map trip) b) := by
  intro d
  induction d with
  | zero =>
    intro i hi
    obtain rfl : i = n := by omega
    refine ev_succ.1 ?_
    simp only [impl_fars.l0, Int.lt_irrefl, if_false, List.replicate_zero, List.append_nil, List.length_replicate, show (0 ≤ b) = True from eq_true b0, show (b < (i : Int)) = True from eq_true b1, if_true]
    exact impl_fars_rounds i l b hx hl hn b0 b1 i 0 _ (by omega) (fars_start b0 b1)
  | succ d ih =>
    intro i hi
    refine ev_succ.1 ?_
    have e : (List.replicate i (100000 : Int) ++ List.replicate (d + 1) 0).set i 100000 = List.replicate (i + 1) 100000 ++ List.replicate d 0 := by
      rw [List.set_append_right _ _ (by simp)]
      simp only [List.length_replicate, Nat.sub_self, List.replicate_succ (n := d), List.set_cons_zero]
      rw [List.replicate_succ' (n := i)]; simp
    simp only [impl_fars.l0, show ((i : Int) < (n : Int)) = True from eq_true (by omega), if_true, List.length_append, List.length_replicate, show (0 ≤ (i : Int)) = True from eq_true (by omega), show ((i : Int) < ((i + (d + 1) : Nat) : Int)) = True from eq_true (by omega), w64 (n := (i : Int) + 1) (by omega) (by omega), Int.toNat_natCast, e]
    exact ih (i + 1) (by omega)
theorem impl_fars_ev (n : Nat) (l : List S86) (b : Int) (hx : In3 n (l.map trip)) (hl : l.length ≤ 1000) (hn : n ≤ 1000) (b0 : 0 ≤ b) (b1 : b < (n : Int)) : Ev (fun k => impl_fars.f k (n : Int) l b) (farsV n (l.map trip) b) := by
  have := impl_fars_fill n l b hx hl hn b0 b1 n 0 (by omega)
  unfold impl_fars.f
  simp only [show (0 ≤ (n : Int)) = True from eq_true (by omega), if_true, Int.toNat_natCast, show (n ≤ 35184372088832) = True from eq_true (by omega), Option.bind_some, List.length_replicate]
  simpa using this

theorem impl_cost_loop (a b : Int) (t : List S86) : ∀ p : List S86, (p ++ t).length ≤ 9223372036854775806 → Ev (fun k => impl_cost.l0 k a b (p ++ t) ((p ++ t).length : Int) (p.length : Int)) (costV (t.map trip) a b) := by
  have hmn : mn a b = min a b := by unfold mn; split <;> omega
  have hmx : mx a b = max a b := by unfold mx; split <;> omega
  induction t with
  | nil =>
    intro p _
    refine ev_succ.1 ?_
    simp only [impl_cost.l0, c_end, Int.lt_irrefl, if_false, ev_some]
    rfl
  | cons x t ih =>
    intro p hb
    refine ev_succ.1 ?_
    have hn := ih (p ++ [x]) (by rwa [← c_app])
    rw [← c_app] at hn
    simp only [impl_cost.l0, c_lt, c_nn, rdE_at, c_next p x t hb, if_true, ev_ite, ev_some, hmn, hmx, List.map_cons, costV]
    by_cases h1 : x.f0 = min a b
    · by_cases h2 : x.f1 = max a b
      · simp [h1, h2, trip]
      · simpa [h1, h2, trip] using hn
    · simpa [h1, trip] using hn
theorem impl_cost_ev (l : List S86) (a b : Int) (h : l.length ≤ 9223372036854775806) : Ev (fun k => impl_cost.f k l a b) (costV (l.map trip) a b) := impl_cost_loop a b l [] h

theorem impl_near_loop (n : Nat) (l : List S86) (v : Int) (hl : l.length ≤ 1000000) (hn : n ≤ 1000) : ∀ (d i : Nat) (o : List Int), i + d = n → o.length ≤ i → Ev (fun k => impl_near.l0 k l v o (n : Int) (i : Int)) (o ++ nearF (l.map trip) v i d) := by
  intro d
  induction d with
  | zero =>
    intro i o hi _
    refine ev_succ.1 ?_
    simp only [impl_near.l0, show ((i : Int) < (n : Int)) = False from eq_false (by omega), if_false, nearF, List.append_nil]
    exact Ev.now _
  | succ d ih =>
    intro i o hi ho
    refine ev_succ.1 ?_
    simp only [impl_near.l0, show ((i : Int) < (n : Int)) = True from eq_true (by omega), if_true, ev_bind (impl_cost_ev l v (i : Int) (by omega)), w64 (n := (i : Int) + 1) (by omega) (by omega), ev_ite, show (o.length < 17592186044416) = True from eq_true (by omega), nearF]
    by_cases h : costV (l.map trip) v (i : Int) > 0
    · have := ih (i + 1) (o ++ [(i : Int)]) (by omega) (by simp; omega)
      simp only [h, if_true]
      simpa using this
    · have := ih (i + 1) o (by omega) (by omega)
      simp only [h, if_false]
      simpa using this
theorem impl_near_ev (n : Nat) (l : List S86) (v : Int) (hl : l.length ≤ 1000000) (hn : n ≤ 1000) : Ev (fun k => impl_near.f k (n : Int) l v) (nearF (l.map trip) v 0 n) := by
  simpa [impl_near.f] using impl_near_loop n l v hl hn n 0 [] (by omega) (by simp)

end Go.Proofs.Ytpohlcjkabojcaa.Pure
