/- What functions of the program answer, as plain functions: used by the laws of this claim. -/
import Derived.Test.YtfkjnpgpofcinaaB0
import Derived.Test.YtfkjnpgpofcinaaF10
import Derived.Test.YtfkjnpgpofcinaaB1
import Derived.Test.YtfkjnpgpofcinaaB2
import Derived.Test.YtfkjnpgpofcinaaB3
import Derived.Test.YtfkjnpgpofcinaaB7
import Derived.Test.YtfkjnpgpofcinaaB9
import Derived.Test.YtfkjnpgpofcinaaB26
import Derived.Test.YtfkjnpgpofcinaaQForest
import Derived.Test.YtfkjnpgpofcinaaQTree
namespace Go.Proofs.Ytfkjnpgpofcinaa.Pure
open Go.RowKit Go.Proofs.Ytfkjnpgpofcinaa.P Go.Proofs.YtfkjnpgpofcinaaW.PrintWords Go.Proofs.Ytfkjnpgpofcinaa.Q
set_option linter.unusedVariables false
set_option linter.unusedSimpArgs false

theorem impl_SpreadOn_ok (ps : List Int) (a : Int) (F : Forest ps) (hg : goodP ps = true) (hn : ps.length ≤ 12) (h0 : 0 ≤ a) (h1 : a < (ps.length : Int)) : Ev (fun k => impl_SpreadOn.f k ps a) ((hopsF ps ps.length [(a, -1)]).map hopS, true) := by
  unfold impl_SpreadOn.f
  have hi : inB 0 ((ps.length : Int) - 1) a = true := inB_iff.2 (by omega)
  simp only [ev_bind (impl_goodTree_ev ps [a] (by omega) (by simp)), allB_cons, allB_nil, hg, hi, Bool.and_self, if_true, ev_bind (impl_spread_ev F hn a h0 h1)]
  exact Ev.now _

theorem laws_has_loop (x : Int) (t : List Int) : ∀ p : List Int, (p ++ t).length ≤ 9223372036854775806 → Ev (fun k => laws_has.l0 k x (p ++ t) ((p ++ t).length : Int) (p.length : Int)) (hasB x t) := by
  induction t with
  | nil =>
    intro p _
    refine ev_succ.1 ?_
    simp only [laws_has.l0, c_end, Int.lt_irrefl, if_false, ev_some]
    rfl
  | cons y t ih =>
    intro p hb
    refine ev_succ.1 ?_
    have hn := ih (p ++ [y]) (by rwa [← c_app])
    rw [← c_app] at hn
    simp only [laws_has.l0, c_lt, c_nn, c_rd, c_next p y t hb, if_true, ev_ite, ev_some]
    by_cases h : y = x
    · simp [h, hasB]
    · have h2 : ¬ x = y := fun e => h e.symm
      simpa [h, h2, hasB] using hn
theorem laws_has_ev (l : List Int) (x : Int) (h : l.length ≤ 9223372036854775806) : Ev (fun k => laws_has.f k l x) (hasB x l) := laws_has_loop x l [] h

theorem spec_DrawSpreadOn_ok (l : List Int) (hl : bytesL l) : ∃ p a, Ev (fun k => spec_DrawSpreadOn.f k l) (p, a) ∧ p.length ≤ 13 := by
  obtain ⟨p, a1, s1, e1, pl, p0, p1⟩ := spec_l1Cur_parents_ok l hl 0 0 (by omega) (by omega)
  have hw : wrap64 ((p.length : Int) + 2) = (p.length : Int) + 2 := w64 (by omega) (by omega)
  obtain ⟨v, a2, s2, e2, _, _, q0, q1⟩ := spec_l1Cur_pick_ok l a1 s1 ((p.length : Int) + 2) hl p0 (by omega) (by omega)
  refine ⟨p, wrap64 (v - 1), ?_, pl⟩
  unfold spec_DrawSpreadOn.f
  rw [slices_xorshift_Next_eq]
  refine ev_some_bind.2 ?_
  refine (ev_bind e1).2 ?_
  rw [hw, e2]
  refine ev_some_bind.2 ?_
  exact Ev.now _

theorem spec_DrawBranchesAt_ok (l : List Int) (hl : bytesL l) : ∃ p a, Ev (fun k => spec_DrawBranchesAt.f k l) (p, a) ∧ p.length ≤ 13 := by
  obtain ⟨p, a, e, pl⟩ := spec_DrawSpreadOn_ok l hl
  refine ⟨p, a, ?_, pl⟩
  unfold spec_DrawBranchesAt.f
  refine (ev_bind e).2 ?_
  exact Ev.now _

theorem impl_BranchesAt_ev (ps : List Int) (a : Int) (hb : ps.length ≤ 1000000000) : Ev (fun k => impl_BranchesAt.f k ps a) (if goodP ps && inB 0 ((ps.length : Int) - 1) a then (joinL ps a, true) else ([], false)) := by
  unfold impl_BranchesAt.f
  simp only [ev_bind (impl_goodTree_ev ps [a] hb (by simp)), allB_cons, allB_nil, Bool.and_true, Bool.and_self, ev_ite, ev_some]
  cases goodP ps
  · simp
  · cases h : inB 0 ((ps.length : Int) - 1) a
    · simp
    · have := inB_iff.1 h
      simp only [ev_bind (impl_branches_ev ps a (by omega) (by omega) hb)]
      simp [ev_some]

theorem spec_l1Cur_wants_loop (l : List Int) (hl : bytesL l) : ∀ (m : Nat) (o : List Int) (at_ seed : Int), 0 ≤ at_ → at_ + 10 * m ≤ 1000000 → o.length + m ≤ 1000 → ∃ r a s, Ev (fun k => spec_l1Cur_wants.l0 k o (m : Int) l at_ seed) (r, a, s) ∧ r.length ≤ o.length + m + 1 ∧ 0 ≤ a ∧ a ≤ 2000000 := by
  intro m
  induction m with
  | zero =>
    intro o at_ seed h0 h1 h2
    obtain ⟨b, a1, s1, e1, p0, p1⟩ := spec_l1Cur_one_ok l at_ seed 20 hl h0 (by omega) (by omega)
    rcases Bool.eq_false_or_eq_true b with hb | hb
    · obtain ⟨v, a2, s2, e2, _, g0, g1⟩ := spec_l1Cur_among_ok l a1 s1 [-1, 11, 12] hl (by omega) (by omega) (by simp) (by simp)
      have hp := putV_length v o
      refine ⟨putV o v, a2, s2, ev_succ.1 ?_, by omega, by omega, by omega⟩
      simp only [spec_l1Cur_wants.l0, show (((0 : Nat) : Int) > 0) = False from eq_false (by omega), if_false, e1, hb, Option.bind_some, if_true, e2, ev_bind (spec_l1Put_ev o v (by omega))]
      exact Ev.now _
    · refine ⟨o, a1, s1, ev_succ.1 ?_, by omega, by omega, by omega⟩
      simp only [spec_l1Cur_wants.l0, show (((0 : Nat) : Int) > 0) = False from eq_false (by omega), if_false, e1, hb, Option.bind_some, Bool.false_eq_true]
      exact Ev.now _
  | succ m ih =>
    intro o at_ seed h0 h1 h2
    have hw : wrap64 (((m + 1 : Nat) : Int) - 1) = (m : Int) := by rw [w64 (by omega) (by omega)]; omega
    obtain ⟨v, a1, s1, e1, _, _, p0, p1⟩ := spec_l1Cur_pick_ok l at_ seed 9 hl h0 (by omega) (by omega)
    have hp := putV_length v o
    obtain ⟨r, a, s, he, hr, hr0, hr1⟩ := ih (putV o v) a1 s1 (by omega) (by omega) (by omega)
    refine ⟨r, a, s, ev_succ.1 ?_, by omega, hr0, hr1⟩
    simp only [spec_l1Cur_wants.l0, show (((m + 1 : Nat) : Int) > 0) = True from eq_true (by omega), if_true, e1, Option.bind_some, ev_bind (spec_l1Put_ev o v (by omega)), hw]
    exact he
theorem spec_l1Cur_wants_ok (l : List Int) (hl : bytesL l) (at_ seed : Int) (h0 : 0 ≤ at_) (h1 : at_ ≤ 500000) : ∃ r a s, Ev (fun k => spec_l1Cur_wants.f k l at_ seed) (r, a, s) ∧ r.length ≤ 100 ∧ 0 ≤ a ∧ a ≤ 2000000 := by
  obtain ⟨v, a1, s1, e1, v0, v1, p0, p1⟩ := spec_l1Cur_pick_ok l at_ seed 5 hl h0 (by omega) (by omega)
  obtain ⟨r, a, s, he, hr, hr0, hr1⟩ := spec_l1Cur_wants_loop l hl v.toNat [] a1 s1 (by omega) (by omega) (by simp; omega)
  rw [show ((v.toNat : Nat) : Int) = v by omega] at he
  refine ⟨r, a, s, ?_, by simp at hr; omega, hr0, hr1⟩
  unfold spec_l1Cur_wants.f
  simp only [e1, Option.bind_some]
  exact he

theorem spec_DrawJoinSpot_ok (l : List Int) (hl : bytesL l) : ∃ w a, Ev (fun k => spec_DrawJoinSpot.f k l) (w, a) ∧ w.length ≤ 100 := by
  obtain ⟨w, a1, s1, e1, wl, p0, p1⟩ := spec_l1Cur_wants_ok l hl 0 0 (by omega) (by omega)
  obtain ⟨v, a2, s2, e2, _⟩ := spec_l1Cur_pick_ok l a1 s1 14 hl p0 (by omega) (by omega)
  refine ⟨w, wrap64 (v - 1), ?_, wl⟩
  unfold spec_DrawJoinSpot.f
  rw [slices_xorshift_Next_eq]
  refine ev_some_bind.2 ?_
  refine (ev_bind e1).2 ?_
  rw [e2]
  refine ev_some_bind.2 ?_
  exact Ev.now _

theorem impl_isSpot_eq (a : Int) : impl_isSpot.f a = some (inB 0 11 a) := by
  unfold impl_isSpot.f
  rw [impl_in_eq]; rfl

theorem slices_isNaN_int_eq (a : Int) : slices_isNaN_int.f a = some false := by
  unfold slices_isNaN_int.f
  rw [bne_self_eq_false]

-- needs QTree
theorem rd_nat {l : List Int} {q : Nat} (h : q < l.length) : rd l (q : Int) = l[q] := by
  simp [rd, List.getD_eq_getElem?_getD, h]
theorem chain_sorted : ∀ (l : List Int) (o : Option Int), chainB o l = true → (∀ y, o = some y → ∀ x ∈ l, y < x) ∧ l.Pairwise (fun a b => a < b)
  | [], _, _ => by simp
  | x :: t, none, h => by
    obtain ⟨h1, h2⟩ := chain_sorted t (some x) h
    exact ⟨(fun y hy => nomatch hy), List.pairwise_cons.2 ⟨h1 x rfl, h2⟩⟩
  | x :: t, some y, h => by
    simp only [chainB_some, Bool.and_eq_true, decide_eq_true_eq] at h
    obtain ⟨h1, h2⟩ := chain_sorted t (some x) h.2
    refine ⟨fun z hz => ?_, List.pairwise_cons.2 ⟨h1 x rfl, h2⟩⟩
    injection hz with hz
    subst hz
    intro w hw
    rcases List.mem_cons.1 hw with rfl | hw
    · exact h.1
    · have := h1 x rfl w hw; omega
theorem rd_lt_of_sorted {l : List Int} (h : l.Pairwise (fun a b => a < b)) {a b : Nat} (hab : a < b) (hb : b < l.length) : rd l (a : Int) < rd l (b : Int) := by
  rw [rd_nat (by omega), rd_nat hb]
  exact List.pairwise_iff_getElem.1 h a b (by omega) hb hab
/-- p numbers lie below n, all others do not. -/
def Parts (l : List Int) (n : Int) (p : Nat) : Prop := p ≤ l.length ∧ (∀ q : Nat, q < p → rd l (q : Int) < n) ∧ ∀ q : Nat, p ≤ q → q < l.length → n ≤ rd l (q : Int)
theorem parts_put : ∀ (l : List Int) (n : Int) (p : Nat), Parts l n p → (if p < l.length ∧ rd l (p : Int) = n then l else l.take p ++ [n] ++ l.drop p) = putV l n
  | [], n, p, ⟨h, _, _⟩ => by
    have : p = 0 := by simpa using h
    subst this; simp [putV]
  | x :: t, n, 0, ⟨_, _, h3⟩ => by
    have h0 := h3 0 (Nat.le_refl _) (by simp)
    have e0 : rd (x :: t) ((0 : Nat) : Int) = x := by simp [rd]
    rw [e0] at h0 ⊢
    unfold putV
    rw [if_neg (show ¬ x < n by omega)]
    by_cases hx : x = n
    · rw [if_pos ⟨by simp, hx⟩, if_pos hx]
    · rw [if_neg (fun h => hx h.2), if_neg hx]; simp
  | x :: t, n, p + 1, ⟨h1, h2, h3⟩ => by
    have e0 : rd (x :: t) ((0 : Nat) : Int) = x := by simp [rd]
    have es : ∀ q : Nat, rd (x :: t) ((q + 1 : Nat) : Int) = rd t (q : Int) := fun q => by simp [rd]
    have hx := h2 0 (by omega)
    rw [e0] at hx
    have ih := parts_put t n p ⟨by simpa using h1, fun q hq => by have := h2 (q + 1) (by omega); rwa [es] at this, fun q hq hl => by have := h3 (q + 1) (by omega) (by simp; omega); rwa [es] at this⟩
    unfold putV
    rw [if_pos hx, ← ih, es]
    by_cases hc : p < t.length ∧ rd t (p : Int) = n
    · rw [if_pos hc, if_pos ⟨by simp; omega, hc.2⟩]
    · rw [if_neg hc, if_neg (fun h => hc ⟨by simpa using h.1, h.2⟩)]; simp
theorem slices_BinarySearch_int_int_loop (l : List Int) (n : Int) (hb : l.length ≤ 1000000000) (hs : l.Pairwise (fun a b => a < b)) : ∀ (d i j : Nat), i ≤ j → j ≤ l.length → j - i ≤ d → (∀ q : Nat, q < i → rd l (q : Int) < n) → (∀ q : Nat, j ≤ q → q < l.length → n ≤ rd l (q : Int)) →
    ∃ p, Parts l n p ∧ Ev (fun k => slices_BinarySearch_int_int.l0 k l n (l.length : Int) (i : Int) (j : Int)) ((p : Int), decide (p < l.length ∧ rd l (p : Int) = n)) := by
  intro d
  induction d with
  | zero =>
    intro i j h1 h2 h3 h4 h5
    have hij : j = i := by omega
    subst hij
    refine ⟨j, ⟨h2, h4, h5⟩, ev_succ.1 ?_⟩
    simp only [slices_BinarySearch_int_int.l0, Int.lt_irrefl, if_false, slices_isNaN_int_eq, Option.bind_some, Bool.false_eq_true, show (0 ≤ (j : Int)) = True from eq_true (by omega), if_true, ev_ite, ev_some]
    by_cases hl : (j : Int) < (l.length : Int)
    · have hl' : j < l.length := by omega
      by_cases he : rd l (j : Int) = n <;> simp [hl, hl', he]
    · have hl' : ¬ j < l.length := by omega
      simp [hl, hl']
  | succ d ih =>
    intro i j h1 h2 h3 h4 h5
    by_cases hij : i < j
    · have hh : wrap64 ((IntKind.u64.wrap (wrap64 ((i : Int) + (j : Int)))) / 2) = (((i + j) / 2 : Nat) : Int) := by
        have e1 : wrap64 ((i : Int) + (j : Int)) = (i : Int) + (j : Int) := w64 (by omega) (by omega)
        have e2 : IntKind.u64.wrap ((i : Int) + (j : Int)) = (i : Int) + (j : Int) := by rw [IntKind.wrap_u64]; omega
        rw [e1, e2, w64 (by omega) (by omega)]
        omega
      have hm1 : (i + j) / 2 < j := by omega
      have hm0 : i ≤ (i + j) / 2 := by omega
      generalize (i + j) / 2 = m at hh hm1 hm0
      have hml : m < l.length := by omega
      have hwm : wrap64 ((m : Int) + 1) = ((m + 1 : Nat) : Int) := by rw [w64 (by omega) (by omega)]; omega
      by_cases hlt : rd l (m : Int) < n
      · obtain ⟨p, hp, he⟩ := ih (m + 1) j (by omega) h2 (by omega) (fun q hq => by
          by_cases e : q = m
          · rw [e]; exact hlt
          · have := rd_lt_of_sorted hs (show q < m by omega) hml; omega) h5
        refine ⟨p, hp, ev_succ.1 ?_⟩
        simp only [slices_BinarySearch_int_int.l0, hh, cmp_Less_int_eq, Option.bind_some, hwm, show ((i : Int) < (j : Int)) = True from eq_true (by omega), show (0 ≤ (m : Int)) = True from eq_true (by omega), show ((m : Int) < (l.length : Int)) = True from eq_true (by omega), if_true, decide_eq_true hlt]
        exact he
      · obtain ⟨p, hp, he⟩ := ih i m (by omega) (by omega) (by omega) h4 (fun q hq hql => by
          by_cases e : q = m
          · rw [e]; omega
          · have := rd_lt_of_sorted hs (show m < q by omega) hql; omega)
        refine ⟨p, hp, ev_succ.1 ?_⟩
        simp only [slices_BinarySearch_int_int.l0, hh, cmp_Less_int_eq, Option.bind_some, show ((i : Int) < (j : Int)) = True from eq_true (by omega), show (0 ≤ (m : Int)) = True from eq_true (by omega), show ((m : Int) < (l.length : Int)) = True from eq_true (by omega), if_true, decide_eq_false hlt, Bool.false_eq_true, if_false]
        exact he
    · exact ih i j h1 h2 (by omega) h4 h5
theorem slices_BinarySearch_int_int_ev (l : List Int) (n : Int) (hb : l.length ≤ 1000000000) (hs : chainB none l = true) : ∃ p, Parts l n p ∧ Ev (fun k => slices_BinarySearch_int_int.f k l n) ((p : Int), decide (p < l.length ∧ rd l (p : Int) = n)) := by
  have := slices_BinarySearch_int_int_loop l n hb (chain_sorted l none hs).2 l.length 0 l.length (by omega) (Nat.le_refl _) (by omega) (fun q hq => by omega) (fun q hq hl => by omega)
  simpa [slices_BinarySearch_int_int.f] using this

theorem slices_Insert_int_int_eq (l : List Int) (p : Nat) (v : List Int) (hp : p ≤ l.length) (hv : v ≠ []) (h : l.length + v.length ≤ 1000000000) : slices_Insert_int_int.f l (p : Int) v = some (l.take p ++ v ++ l.drop p) := by
  have hv0 : 0 < v.length := List.length_pos_iff.2 hv
  unfold slices_Insert_int_int.f
  rw [if_pos (by omega), if_pos (by omega), if_neg (by omega)]
  simp only [Option.bind_some, List.nil_append, List.length_nil, Nat.zero_add, Int.toNat_natCast]
  rw [if_pos (by rw [List.length_take]; omega), if_pos (by rw [List.length_take]; omega), if_pos (by simp only [List.length_append, List.length_take, List.length_drop]; omega)]

theorem impl_joined_ev (l : List Int) (n : Int) (h : l.length ≤ 2097152) (hs : chainB none l = true) : Ev (fun k => impl_joined.f k l n) (putV l n) := by
  obtain ⟨p, hp, he⟩ := slices_BinarySearch_int_int_ev l n (by omega) hs
  unfold impl_joined.f
  simp only [slices_Clone_int_int_eq l h, Option.bind_some, ev_bind he]
  rw [← parts_put l n p hp]
  by_cases hc : p < l.length ∧ rd l (p : Int) = n
  · simp only [hc, and_self, decide_true, if_true, ev_some]
  · simp only [decide_eq_false hc, if_neg hc, Bool.false_eq_true, if_false, slices_Insert_int_int_eq l p [n] hp.1 (by simp) (by simp; omega), Option.bind_some, ev_some]

theorem impl_JoinSpot_ev (l : List Int) (n : Int) (h : l.length ≤ 2097152) : Ev (fun k => impl_JoinSpot.f k l n) (if (allB 0 11 l && chainB none l) && inB 0 11 n then (putV l n, true) else ([], false)) := by
  unfold impl_JoinSpot.f
  simp only [ev_bind (impl_goodWants_ev l (by omega)), impl_isSpot_eq, Option.bind_some, ev_ite]
  cases hg : allB 0 11 l && chainB none l
  · simp only [Bool.false_eq_true, if_false, Bool.false_and, ev_some]
  · have hs : chainB none l = true := by
      simp only [Bool.and_eq_true] at hg; exact hg.2
    cases inB 0 11 n
    · simp only [Bool.false_eq_true, if_false, if_true, Bool.and_false, ev_some]
    · simp only [if_true, Bool.and_self, ev_bind (impl_joined_ev l n h hs), ev_some]

end Go.Proofs.Ytfkjnpgpofcinaa.Pure
