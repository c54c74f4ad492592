/- What functions of the program answer, as plain functions: used by the laws of this claim. -/
import Derived.Test.YtefdgdloghhnaaaB0
import Derived.Test.YtefdgdloghhnaaaF1
import Derived.Test.YtefdgdloghhnaaaQFlow
namespace Go.Proofs.Ytefdgdloghhnaaa.Pure
open Go.RowKit Go.Proofs.Ytefdgdloghhnaaa.P Go.Proofs.YtefdgdloghhnaaaW.PrintWords Go.Proofs.Ytefdgdloghhnaaa.Q
set_option linter.unusedVariables false
set_option linter.unusedSimpArgs false

theorem spec_l1In_eq (a b c : Int) : spec_l1In.f a b c = some (inB b c a) := by
  unfold spec_l1In.f inB
  by_cases h1 : a ≥ b <;> by_cases h2 : a ≤ c <;> simp [h1, h2] <;> omega

theorem spec_NewPair_all (a : Int) : spec_NewPair.f a = some (newP a) := by
  unfold spec_NewPair.f newP
  simp only [spec_l1In_eq, Option.bind_some]
  cases h : inB 0 3 a
  · rfl
  · rw [inB_iff] at h
    simp only [if_true]
    by_cases h0 : a = 0
    · rw [if_pos h0, if_neg (by omega)]
    · rw [if_neg h0, if_pos (by omega)]
theorem spec_NewPair_eq : spec_NewPair.f 0 = some ([0, 0], [0, 0], [], true) := spec_NewPair_all 0

/-- What is read of a byte. -/
def bytesL (l : List Int) : Prop := ∀ x ∈ l, 0 ≤ x ∧ x ≤ 255
theorem bytesL_wf {l : List Int} (h : ∀ y ∈ l, (Lit.int .u8 y).wf = true) : bytesL l := by
  intro x hx
  have := h x hx
  simp [Lit.wf, Go.IntKind.min, Go.IntKind.max, Go.IntKind.bits, Go.IntKind.signed] at this
  omega
theorem and255 (x : Int) : 0 ≤ wrap64 (Go.bits .and .u64 x 255) ∧ wrap64 (Go.bits .and .u64 x 255) ≤ 255 := by
  have hn : (BitVec.ofInt 64 x &&& BitVec.ofInt 64 255).toNat ≤ 255 := by
    rw [BitVec.toNat_and]
    exact Nat.le_trans Nat.and_le_right (by decide)
  have e : Go.bits .and .u64 x 255 = Go.IntKind.u64.wrap ((BitVec.ofInt 64 x &&& BitVec.ofInt 64 255).toNat : Int) := rfl
  rw [e]
  generalize (BitVec.ofInt 64 x &&& BitVec.ofInt 64 255).toNat = n at hn
  have h1 : Go.IntKind.u64.wrap (n : Int) = n := by
    unfold Go.IntKind.wrap
    simp [Go.IntKind.bits, Go.IntKind.signed]
    omega
  rw [h1, w64 (by omega) (by omega)]
  omega
theorem spec_l1Cur_next_ok (l : List Int) (at_ seed : Int) (hl : bytesL l) (h0 : 0 ≤ at_) (h1 : at_ ≤ 1000000000000) : ∃ v s, spec_l1Cur_next.f l at_ seed = some (v, at_ + 1, s) ∧ 0 ≤ v ∧ v ≤ 255 := by
  have hw : wrap64 (at_ + 1) = at_ + 1 := w64 (by omega) (by omega)
  unfold spec_l1Cur_next.f
  by_cases h : at_ < (l.length : Int)
  · have hm : rd l at_ ∈ l := by
      unfold rd
      rw [List.getD_eq_getElem?_getD, List.getElem?_eq_getElem (by omega)]
      exact List.getElem_mem _
    have hb := hl _ hm
    have hw2 : wrap64 (rd l at_) = rd l at_ := w64 (by omega) (by omega)
    rw [if_pos h, if_pos h0, hw, if_pos (by omega), hw2]
    exact ⟨_, _, rfl, hb.1, hb.2⟩
  · rw [if_neg h, hw, if_neg (by omega)]
    exact ⟨_, _, rfl, (and255 _).1, (and255 _).2⟩

theorem spec_l1Cur_pick_ok (l : List Int) (at_ seed n : Int) (hl : bytesL l) (h0 : 0 ≤ at_) (h1 : at_ ≤ 100000000000) (hn : n ≤ 1000000000) : ∃ v a s, spec_l1Cur_pick.f l at_ seed n = some (v, a, s) ∧ 0 ≤ v ∧ (v < n ∨ v = 0) ∧ at_ ≤ a ∧ a ≤ at_ + 2 := by
  unfold spec_l1Cur_pick.f
  by_cases hs : n ≤ 1
  · exact ⟨0, at_, seed, by rw [if_pos hs], by omega, .inr rfl, by omega, by omega⟩
  · obtain ⟨v, s, e, b0, b1⟩ := spec_l1Cur_next_ok l at_ seed hl h0 (by omega)
    rw [if_neg hs, e, Option.bind_some]
    by_cases h2 : n > 200
    · obtain ⟨v2, s2, e2, c0, c1⟩ := spec_l1Cur_next_ok l (at_ + 1) s hl (by omega) (by omega)
      have hw : wrap64 (v * 256) = v * 256 := w64 (by omega) (by omega)
      have hw2 : wrap64 (v * 256 + v2) = v * 256 + v2 := w64 (by omega) (by omega)
      have hm : Int.tmod (v * 256 + v2) n = (v * 256 + v2) % n := Int.tmod_eq_emod_of_nonneg (by omega)
      have m0 := Int.emod_nonneg (v * 256 + v2) (show n ≠ 0 by omega)
      have m1 := Int.emod_lt_of_pos (v * 256 + v2) (show 0 < n by omega)
      simp only [if_pos h2, e2, Option.bind_some, if_neg (show ¬ n = 0 by omega), hw, hw2, hm]
      exact ⟨_, _, _, rfl, m0, .inl m1, by omega, by omega⟩
    · have hm : Int.tmod v n = v % n := Int.tmod_eq_emod_of_nonneg b0
      have m0 := Int.emod_nonneg v (show n ≠ 0 by omega)
      have m1 := Int.emod_lt_of_pos v (show 0 < n by omega)
      simp only [if_neg h2, if_neg (show ¬ n = 0 by omega), hm]
      exact ⟨_, _, _, rfl, m0, .inl m1, by omega, by omega⟩

theorem spec_l1Cur_one_ok (l : List Int) (at_ seed n : Int) (hl : bytesL l) (h0 : 0 ≤ at_) (h1 : at_ ≤ 100000000000) (hn : n ≤ 1000000000) : ∃ b a s, spec_l1Cur_one.f l at_ seed n = some (b, a, s) ∧ at_ ≤ a ∧ a ≤ at_ + 2 := by
  obtain ⟨v, a, s, e, _, _, a0, a1⟩ := spec_l1Cur_pick_ok l at_ seed n hl h0 h1 hn
  exact ⟨v == 0, a, s, by unfold spec_l1Cur_one.f; rw [e]; rfl, a0, a1⟩

theorem spec_l1Cur_among_ok (l : List Int) (at_ seed : Int) (m : List Int) (hl : bytesL l) (h0 : 0 ≤ at_) (h1 : at_ ≤ 100000000000) (hm : 1 ≤ m.length) (hm2 : m.length ≤ 1000000) : ∃ v a s, spec_l1Cur_among.f l at_ seed m = some (v, a, s) ∧ v ∈ m ∧ at_ ≤ a ∧ a ≤ at_ + 2 := by
  obtain ⟨v, a, s, e, b0, b1, a0, a1⟩ := spec_l1Cur_pick_ok l at_ seed (m.length : Int) hl h0 h1 (by omega)
  have hv : v < (m.length : Int) := by omega
  refine ⟨rd m v, a, s, ?_, ?_, a0, a1⟩
  · unfold spec_l1Cur_among.f
    simp only [e, Option.bind_some, if_pos b0, if_pos hv]
  · unfold rd
    rw [List.getD_eq_getElem?_getD, List.getElem?_eq_getElem (by omega)]
    exact List.getElem_mem _

theorem spec_l1Cur_pairSteps_loop (l : List Int) (hl : bytesL l) : ∀ (m : Nat) (o : List S28) (at_ seed : Int), 0 ≤ at_ → at_ + 20 * m ≤ 1000000000 → o.length + m ≤ 1000 → ∃ r a s, Ev (fun k => spec_l1Cur_pairSteps.l0 k o (m : Int) l at_ seed) (r, a, s) ∧ r.length ≤ o.length + m ∧ at_ ≤ a ∧ a ≤ at_ + 20 * m := by
  intro m
  induction m with
  | zero =>
    intro o at_ seed _ _ _
    refine ⟨o, at_, seed, ev_succ.1 ?_, by omega, by omega, by omega⟩
    simp only [spec_l1Cur_pairSteps.l0, show (((0 : Nat) : Int) > 0) = False from eq_false (by omega), if_false]
    exact Ev.now _
  | succ m ih =>
    intro o at_ seed h0 h1 h2
    have hw : wrap64 (((m + 1 : Nat) : Int) - 1) = (m : Int) := by rw [w64 (by omega) (by omega)]; omega
    have ho : (o.length < 8796093022208) = True := eq_true (by omega)
    have hj : ∀ (x y b c : Int), at_ ≤ b → b ≤ at_ + 4 → ∃ r a s, Ev (fun k => spec_l1Cur_pairSteps.j2 k o ((m + 1 : Nat) : Int) l b c x y) (r, a, s) ∧ r.length ≤ o.length + (m + 1) ∧ at_ ≤ a ∧ a ≤ at_ + 20 * ((m + 1 : Nat) : Int) := by
      intro x y b c hb0 hb1
      obtain ⟨v, b2, c2, e, g0, g1⟩ := spec_l1Cur_one_ok l b c 30 hl (by omega) (by omega) (by omega)
      rcases Bool.eq_false_or_eq_true v with hv | hv
      · obtain ⟨v3, b3, c3, e3, _, _, i0, i1⟩ := spec_l1Cur_pick_ok l b2 c2 6 hl (by omega) (by omega) (by omega)
        obtain ⟨v4, b4, c4, e4, _, _, j0, j1⟩ := spec_l1Cur_pick_ok l b3 c3 5 hl (by omega) (by omega) (by omega)
        obtain ⟨r, a, s, he, k0, k1, k2⟩ := ih (o ++ [⟨v3, wrap64 (v4 - 1)⟩]) b4 c4 (by omega) (by omega) (by simp; omega)
        refine ⟨r, a, s, ev_succ.1 ?_, by simp at k0; omega, by omega, by omega⟩
        simp only [spec_l1Cur_pairSteps.j2, e, e3, e4, hv, Option.bind_some, if_true, ho, hw]
        exact he
      · obtain ⟨r, a, s, he, k0, k1, k2⟩ := ih (o ++ [⟨x, y⟩]) b2 c2 (by omega) (by omega) (by simp; omega)
        refine ⟨r, a, s, ev_succ.1 ?_, by simp at k0; omega, by omega, by omega⟩
        simp only [spec_l1Cur_pairSteps.j2, e, hv, Option.bind_some, Bool.false_eq_true, if_false, if_true, ho, hw]
        exact he
    obtain ⟨v, b, c, e, _, g0, g1⟩ := spec_l1Cur_among_ok l at_ seed [1, 1, 1, 2, 2, 2, 3, 4] hl h0 (by omega) (by simp) (by simp)
    obtain ⟨v2, b2, c2, e2, _, _, i0, i1⟩ := spec_l1Cur_pick_ok l b c 2 hl (by omega) (by omega) (by omega)
    by_cases h4 : v = 4
    · obtain ⟨r, a, s, he, k⟩ := hj v 0 b2 c2 (by omega) (by omega)
      refine ⟨r, a, s, ev_succ.1 ?_, k⟩
      simp only [spec_l1Cur_pairSteps.l0, e, e2, Option.bind_some, show (((m + 1 : Nat) : Int) > 0) = True from eq_true (by omega), if_true, if_pos h4]
      exact he
    · obtain ⟨r, a, s, he, k⟩ := hj v v2 b2 c2 (by omega) (by omega)
      refine ⟨r, a, s, ev_succ.1 ?_, k⟩
      simp only [spec_l1Cur_pairSteps.l0, e, e2, Option.bind_some, show (((m + 1 : Nat) : Int) > 0) = True from eq_true (by omega), if_true, if_neg h4]
      exact he
theorem spec_l1Cur_pairSteps_ok (l : List Int) (hl : bytesL l) (at_ seed : Int) (h0 : 0 ≤ at_) (h1 : at_ ≤ 100000000) : ∃ r a s, Ev (fun k => spec_l1Cur_pairSteps.f k l at_ seed) (r, a, s) ∧ r.length ≤ 100 ∧ at_ ≤ a ∧ a ≤ at_ + 3000 := by
  have hj : ∀ (n b c : Int), 0 ≤ n → n ≤ 62 → at_ ≤ b → b ≤ at_ + 10 → ∃ r a s, Ev (fun k => spec_l1Cur_pairSteps.j0 k [] n l b c) (r, a, s) ∧ r.length ≤ 100 ∧ at_ ≤ a ∧ a ≤ at_ + 3000 := by
    intro n b c n0 n1 hb0 hb1
    obtain ⟨r, a, s, he, k0, k1, k2⟩ := spec_l1Cur_pairSteps_loop l hl n.toNat [] b c (by omega) (by omega) (by simp; omega)
    rw [show ((n.toNat : Nat) : Int) = n by omega] at he
    refine ⟨r, a, s, ev_succ.1 ?_, by simp at k0; omega, by omega, by omega⟩
    simp only [spec_l1Cur_pairSteps.j0]
    exact he
  obtain ⟨v, b, c, e, p0, p1, g0, g1⟩ := spec_l1Cur_pick_ok l at_ seed 24 hl h0 (by omega) (by omega)
  obtain ⟨v2, b2, c2, e2, i0, i1⟩ := spec_l1Cur_one_ok l b c 20 hl (by omega) (by omega) (by omega)
  rcases Bool.eq_false_or_eq_true v2 with hv | hv
  · obtain ⟨v3, b3, c3, e3, q0, q1, j0, j1⟩ := spec_l1Cur_pick_ok l b2 c2 3 hl (by omega) (by omega) (by omega)
    have hw : wrap64 (59 + v3) = 59 + v3 := w64 (by omega) (by omega)
    obtain ⟨r, a, s, he, k⟩ := hj (59 + v3) b3 c3 (by omega) (by omega) (by omega) (by omega)
    refine ⟨r, a, s, ?_, k⟩
    unfold spec_l1Cur_pairSteps.f
    simp only [e, e2, e3, hv, Option.bind_some, if_true, hw]
    exact he
  · obtain ⟨r, a, s, he, k⟩ := hj v b2 c2 (by omega) (by omega) (by omega) (by omega)
    refine ⟨r, a, s, ?_, k⟩
    unfold spec_l1Cur_pairSteps.f
    simp only [e, e2, hv, Option.bind_some, Bool.false_eq_true, if_false]
    exact he

theorem spec_l3Side_eq (a : Int) : spec_l3Side.f a = some (inB 0 1 a) := by
  unfold spec_l3Side.f; simp only [spec_l1In_eq, Option.bind_some]

end Go.Proofs.Ytefdgdloghhnaaa.Pure
