/- The plain statement behind the law FnExactFixFor: for all arguments it answers true. -/
import Derived.Test.YtnoklicihomfoaaB0
import Derived.Test.YtnoklicihomfoaaF29
import Derived.Test.YtnoklicihomfoaaB1
import Derived.Test.YtnoklicihomfoaaB2
import Derived.Test.YtnoklicihomfoaaB3
import Derived.Test.YtnoklicihomfoaaB10
import Derived.Test.YtnoklicihomfoaaB27
import Derived.Test.YtnoklicihomfoaaB28
import Derived.Test.YtnoklicihomfoaaB37
namespace Go.Proofs.Ytnoklicihomfoaa.Pure
open Go.RowKit Go.Proofs.Ytnoklicihomfoaa.P Go.Proofs.YtnoklicihomfoaaW.PrintWords Go.Proofs.Ytnoklicihomfoaa.Q
set_option linter.unusedVariables false
set_option linter.unusedSimpArgs false

theorem impl_FixFor_in (n : Nat) (hn : n ≤ 12) (l : List S84) (hg : goodE (n : Int) (l.map trip) = true) (hw : Within n (ends l)) (h40 : l.length ≤ 40) (i : Nat) (hi : i < l.length) (v : Int × Int × Bool) (a : Int) (a0 : 0 ≤ a) (a1 : a < n) (hc : Ev (fun k => impl_FixFor.l0 k (n : Int) l (i : Int) (n : Int) (wrap64 (a + 1))) v) : ∀ (d : Nat) (b : Int), a < b → b + d = n → Ev (fun k => impl_FixFor.l1 k (n : Int) l (i : Int) a b (n : Int) a) (match fixIn (fixP n (l.map trip) (ends l) i) a d b with | some b => (a, b, true) | none => v) := by
  intro d
  induction d with
  | zero =>
    intro b hab hb
    refine ev_succ.1 ?_
    simp only [impl_FixFor.l1, show (b < (n : Int)) = False from eq_false (by omega), if_false, fixIn]
    exact hc
  | succ d ih =>
    intro b hab hb
    refine ev_succ.1 ?_
    have hnx := ih (b + 1) (by omega) (by omega)
    have hE : ∀ x ∈ l, x.f0 < x.f1 := fun x hx => by
      obtain ⟨m, hm, _, _, h3, _⟩ := goodE_open hg
      have := h3 (trip x) (List.mem_map_of_mem hx)
      simp only [trip] at this; omega
    have hw2 : Within n (ends (l ++ [(⟨a, b, 1⟩ : S84)])) := by
      intro e he
      rw [show ends (l ++ [(⟨a, b, 1⟩ : S84)]) = ends l ++ [(a, b)] by simp [ends]] at he
      rcases List.mem_append.1 he with he | he
      · exact hw e he
      · rw [List.mem_singleton.1 he]; simp only; omega
    have hcost := impl_cost_ev l a b (by omega)
    have hcut := impl_isCut_ev n (l ++ [(⟨a, b, 1⟩ : S84)]) i hw2 (by simp; omega) (by omega)
    rw [show ends (l ++ [(⟨a, b, 1⟩ : S84)]) = ends l ++ [(a, b)] by simp [ends]] at hcut
    simp only [impl_FixFor.l1, show (b < (n : Int)) = True from eq_true (by omega), if_true, ev_bind hcost, ev_ite, ev_some, w64 (n := b + 1) (by omega) (by omega)]
    have hP : fixP n (l.map trip) (ends l) i a b = (decide (costV (l.map trip) a b ≤ 0) && !decide (manyV n ((ends l ++ [(a, b)]).eraseIdx i) > manyV n (ends l ++ [(a, b)]))) := rfl
    simp only [fixIn, hP]
    by_cases h1 : costV (l.map trip) a b > 0
    · simp only [h1, if_true, show decide (costV (l.map trip) a b ≤ 0) = false from decide_eq_false (by omega), Bool.false_and, Bool.false_eq_true, if_false]
      exact hnx
    · have h1' : costV (l.map trip) a b ≤ 0 := by omega
      simp only [h1, if_false, decide_eq_true h1', Bool.true_and]
      simp only [impl_Edge_eq l (by omega), Option.bind_some, show (l.length < 5864062014805) = True from eq_true (by omega), if_true, ev_bind hcut, ev_ite, ev_some]
      by_cases h2 : manyV n ((ends l ++ [(a, b)]).eraseIdx i) > manyV n (ends l ++ [(a, b)])
      · simp only [decide_eq_true h2, if_true, Bool.not_true, Bool.false_eq_true, if_false]
        exact hnx
      · simp only [decide_eq_false h2, Bool.false_eq_true, if_false, Bool.not_false, if_true]
theorem impl_FixFor_out (n : Nat) (hn : n ≤ 12) (l : List S84) (hg : goodE (n : Int) (l.map trip) = true) (hw : Within n (ends l)) (h40 : l.length ≤ 40) (i : Nat) (hi : i < l.length) : ∀ (d : Nat) (a : Int), 0 ≤ a → a + d = n → Ev (fun k => impl_FixFor.l0 k (n : Int) l (i : Int) (n : Int) a) (fixOut (fixP n (l.map trip) (ends l) i) n d a) := by
  intro d
  induction d with
  | zero =>
    intro a a0 ha
    refine ev_succ.1 ?_
    simp only [impl_FixFor.l0, show (a < (n : Int)) = False from eq_false (by omega), if_false, ev_some, fixOut]
  | succ d ih =>
    intro a a0 ha
    refine ev_succ.1 ?_
    simp only [impl_FixFor.l0, show (a < (n : Int)) = True from eq_true (by omega), if_true, w64 (n := a + 1) (by omega) (by omega), fixOut]
    have hnx := ih (a + 1) (by omega) (by omega)
    refine impl_FixFor_in n hn l hg hw h40 i hi _ a a0 (by omega) ?_ ((n : Int) - a - 1).toNat (a + 1) (by omega) (by omega)
    rw [w64 (by omega) (by omega)]
    exact hnx
theorem impl_FixFor_ev (n : Int) (l : List S84) (k : Int) (h : l.length ≤ 1000000000) : Ev (fun k_ => impl_FixFor.f k_ n l k) (if goodE n (l.map trip) && hasB k (cutL n.toNat (ends l)) then fixOut (fixP n.toNat (l.map trip) (ends l) k.toNat) n.toNat n.toNat 0 else (0, 0, false)) := by
  unfold impl_FixFor.f
  have ht : Ev (fun k_ => impl_FixFor.j0 k_ n l k true) (0, 0, false) := by
    refine ev_succ.1 ?_
    simp only [impl_FixFor.j0, if_true]
    exact Ev.now _
  simp only [ev_bind (impl_GoodEdges_ev n l (by omega)), ev_ite]
  cases hg : goodE n (l.map trip)
  · simpa using ht
  · obtain ⟨m, rfl, h1, h2, hw, h40⟩ := goodE_within hg
    have hcl : (cutL m (ends l)).length ≤ 1000000000 := by
      have := cutFrom_length m (ends l) (ends l).length 0
      have e : (ends l).length = l.length := by simp [ends]
      unfold cutL; omega
    simp only [if_true, Int.toNat_natCast, ev_bind (impl_cutEdges_ev m l hw h (by omega)), ev_bind (slices_Contains_int_int_ev (cutL m (ends l)) k (by omega)), Bool.true_and]
    cases hk : hasB k (cutL m (ends l))
    · simpa using ht
    · obtain ⟨i, rfl, hi⟩ := cutL_has m (ends l) k hk
      have hi : i < l.length := by simpa [ends] using hi
      simp only [if_true, Int.toNat_natCast, Bool.not_true]
      refine ev_succ.1 ?_
      simp only [impl_FixFor.j0, Bool.false_eq_true, if_false]
      exact impl_FixFor_out m h2 l hg hw h40 i hi m 0 (by omega) (by omega)

theorem FnExactFixFor (n : Int) (l0 : List S86) (k : Int) (_ : (Lit.int .i64 n).wf = true) (hl : l0.length ≤ maxLen ∧ ∀ y ∈ l0, G86 y) (_ : (Lit.int .i64 k).wf = true) : ∃ k_, laws_FnExactFixFor.f k_ n l0 k = some true := by
  refine Ev.rounds ?_
  unfold laws_FnExactFixFor.f
  simp only [laws_szEdgeS_eq l0 hl.1, Option.bind_some]
  by_cases hbig : (l0.length : Int) > 1048576
  · simp only [hbig, if_true]; exact Ev.now _
  have hc : ¬ ((1048576 : Int) - (l0.length : Int) < 0) := by omega
  have hs : (l0.map toE).length ≤ 1048576 := by simp; omega
  have hto := laws_toEdgeS_ev l0 (by omega)
  simp only [hbig, hc, if_false, ev_bind hto]
  generalize l0.map toE = l at hs hto ⊢
  have hi := impl_FixFor_ev n l k (by omega)
  have hw := spec_FixFor_ev n l k (by omega)
  generalize (if goodE n (l.map trip) && hasB k (cutL n.toNat (ends l)) then fixOut (fixP n.toNat (l.map trip) (ends l) k.toNat) n.toNat n.toNat 0 else (0, 0, false)) = v at hi hw
  obtain ⟨r1, r2, r3⟩ := v
  simp only [ev_bind hto, ev_bind hw, ev_bind hi, bne_self_eq_false, Bool.false_eq_true, if_false, if_true]
  refine ev_succ.1 ?_
  simp only [laws_FnExactFixFor.j0, Bool.false_eq_true, if_false, ev_bind hto, ev_bind (laws_eqEdgeS_ev l (by omega)), if_true]
  exact Ev.now _

end Go.Proofs.Ytnoklicihomfoaa.Pure
