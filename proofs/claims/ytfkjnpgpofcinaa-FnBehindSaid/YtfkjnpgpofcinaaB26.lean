/- What functions of the program answer, as plain functions: used by the laws of this claim. -/
import Derived.Test.YtfkjnpgpofcinaaB0
import Derived.Test.YtfkjnpgpofcinaaF26
namespace Go.Proofs.Ytfkjnpgpofcinaa.Pure
open Go.RowKit Go.Proofs.Ytfkjnpgpofcinaa.P Go.Proofs.YtfkjnpgpofcinaaW.PrintWords Go.Proofs.Ytfkjnpgpofcinaa.Q
set_option linter.unusedVariables false
set_option linter.unusedSimpArgs false

theorem slices_xorshift_Next_eq (l : List Int) : slices_xorshift_Next.f l = some (l, 0, 0) := rfl

/-- What is read of a byte. -/
def bytesL (l : List Int) : Prop := ∀ x ∈ l, 0 ≤ x ∧ x ≤ 255
theorem bytesL_wf {l : List Int} (h : ∀ y ∈ l, (Lit.int .u8 y).wf = true) : bytesL l := by
  intro x hx
  have := h x hx
  simp [Lit.wf, Go.IntKind.min, Go.IntKind.max, Go.IntKind.bits, Go.IntKind.signed] at this
  omega
theorem and255 (x : Int) : 0 ≤ wrap64 (Go.bits .and .u64 x 255) ∧ wrap64 (Go.bits .and .u64 x 255) ≤ 255 := by
  have hn : (BitVec.ofInt 64 x &&& BitVec.ofInt 64 255).toNat ≤ 255 := by
    rw [BitVec.toNat_and]
    exact Nat.le_trans Nat.and_le_right (by decide)
  have e : Go.bits .and .u64 x 255 = Go.IntKind.u64.wrap ((BitVec.ofInt 64 x &&& BitVec.ofInt 64 255).toNat : Int) := rfl
  rw [e]
  generalize (BitVec.ofInt 64 x &&& BitVec.ofInt 64 255).toNat = n at hn
  have h1 : Go.IntKind.u64.wrap (n : Int) = n := by
    unfold Go.IntKind.wrap
    simp [Go.IntKind.bits, Go.IntKind.signed]
    omega
  rw [h1, w64 (by omega) (by omega)]
  omega
theorem spec_l1Cur_next_ok (l : List Int) (at_ seed : Int) (hl : bytesL l) (h0 : 0 ≤ at_) (h1 : at_ ≤ 1000000000000) : ∃ v s, spec_l1Cur_next.f l at_ seed = some (v, at_ + 1, s) ∧ 0 ≤ v ∧ v ≤ 255 := by
  have hw : wrap64 (at_ + 1) = at_ + 1 := w64 (by omega) (by omega)
  unfold spec_l1Cur_next.f
  by_cases h : at_ < (l.length : Int)
  · have hm : rd l at_ ∈ l := by
      unfold rd
      rw [List.getD_eq_getElem?_getD, List.getElem?_eq_getElem (by omega)]
      exact List.getElem_mem _
    have hb := hl _ hm
    have hw2 : wrap64 (rd l at_) = rd l at_ := w64 (by omega) (by omega)
    rw [if_pos h, if_pos h0, hw, if_pos (by omega), hw2]
    exact ⟨_, _, rfl, hb.1, hb.2⟩
  · rw [if_neg h, hw, if_neg (by omega)]
    exact ⟨_, _, rfl, (and255 _).1, (and255 _).2⟩

theorem spec_l1Cur_pick_ok (l : List Int) (at_ seed n : Int) (hl : bytesL l) (h0 : 0 ≤ at_) (h1 : at_ ≤ 100000000000) (hn : n ≤ 1000000000) : ∃ v a s, spec_l1Cur_pick.f l at_ seed n = some (v, a, s) ∧ 0 ≤ v ∧ (v < n ∨ v = 0) ∧ at_ ≤ a ∧ a ≤ at_ + 2 := by
  unfold spec_l1Cur_pick.f
  by_cases hs : n ≤ 1
  · exact ⟨0, at_, seed, by rw [if_pos hs], by omega, .inr rfl, by omega, by omega⟩
  · obtain ⟨v, s, e, b0, b1⟩ := spec_l1Cur_next_ok l at_ seed hl h0 (by omega)
    rw [if_neg hs, e, Option.bind_some]
    by_cases h2 : n > 200
    · obtain ⟨v2, s2, e2, c0, c1⟩ := spec_l1Cur_next_ok l (at_ + 1) s hl (by omega) (by omega)
      have hw : wrap64 (v * 256) = v * 256 := w64 (by omega) (by omega)
      have hw2 : wrap64 (v * 256 + v2) = v * 256 + v2 := w64 (by omega) (by omega)
      have hm : Int.tmod (v * 256 + v2) n = (v * 256 + v2) % n := Int.tmod_eq_emod_of_nonneg (by omega)
      have m0 := Int.emod_nonneg (v * 256 + v2) (show n ≠ 0 by omega)
      have m1 := Int.emod_lt_of_pos (v * 256 + v2) (show 0 < n by omega)
      simp only [if_pos h2, e2, Option.bind_some, if_neg (show ¬ n = 0 by omega), hw, hw2, hm]
      exact ⟨_, _, _, rfl, m0, .inl m1, by omega, by omega⟩
    · have hm : Int.tmod v n = v % n := Int.tmod_eq_emod_of_nonneg b0
      have m0 := Int.emod_nonneg v (show n ≠ 0 by omega)
      have m1 := Int.emod_lt_of_pos v (show 0 < n by omega)
      simp only [if_neg h2, if_neg (show ¬ n = 0 by omega), hm]
      exact ⟨_, _, _, rfl, m0, .inl m1, by omega, by omega⟩

theorem spec_l1Cur_one_ok (l : List Int) (at_ seed n : Int) (hl : bytesL l) (h0 : 0 ≤ at_) (h1 : at_ ≤ 100000000000) (hn : n ≤ 1000000000) : ∃ b a s, spec_l1Cur_one.f l at_ seed n = some (b, a, s) ∧ at_ ≤ a ∧ a ≤ at_ + 2 := by
  obtain ⟨v, a, s, e, _, _, a0, a1⟩ := spec_l1Cur_pick_ok l at_ seed n hl h0 h1 hn
  exact ⟨v == 0, a, s, by unfold spec_l1Cur_one.f; rw [e]; rfl, a0, a1⟩

theorem spec_l1Cur_among_ok (l : List Int) (at_ seed : Int) (m : List Int) (hl : bytesL l) (h0 : 0 ≤ at_) (h1 : at_ ≤ 100000000000) (hm : 1 ≤ m.length) (hm2 : m.length ≤ 1000000) : ∃ v a s, spec_l1Cur_among.f l at_ seed m = some (v, a, s) ∧ v ∈ m ∧ at_ ≤ a ∧ a ≤ at_ + 2 := by
  obtain ⟨v, a, s, e, b0, b1, a0, a1⟩ := spec_l1Cur_pick_ok l at_ seed (m.length : Int) hl h0 h1 (by omega)
  have hv : v < (m.length : Int) := by omega
  refine ⟨rd m v, a, s, ?_, ?_, a0, a1⟩
  · unfold spec_l1Cur_among.f
    simp only [e, Option.bind_some, if_pos b0, if_pos hv]
  · unfold rd
    rw [List.getD_eq_getElem?_getD, List.getElem?_eq_getElem (by omega)]
    exact List.getElem_mem _

theorem slices_Clone_int_int_eq (l : List Int) (h : l.length ≤ 2097152) : slices_Clone_int_int.f l = some l := by
  unfold slices_Clone_int_int.f
  simp only [Option.bind_some, List.nil_append, List.length_nil, Nat.zero_add]
  rw [if_pos (by omega)]

theorem laws_sameInts_loop (t : List Int) : ∀ p : List Int, (p ++ t).length ≤ 9223372036854775806 → Ev (fun k => laws_sameInts.l0 k (p ++ t) (p ++ t) ((p ++ t).length : Int) (p.length : Int)) true := by
  induction t with
  | nil =>
    intro p _
    refine ev_succ.1 ?_
    simp only [laws_sameInts.l0, c_end, Int.lt_irrefl, if_false, ev_some]
  | cons x t ih =>
    intro p hb
    refine ev_succ.1 ?_
    simp only [laws_sameInts.l0, c_lt, c_nn, c_next _ _ _ hb, if_true]
    rw [c_app p x t]
    exact ih (p ++ [x]) (by rwa [← c_app])
theorem laws_sameInts_ev (l : List Int) (h : l.length ≤ 9223372036854775806) : Ev (fun k => laws_sameInts.f k l l) true := by
  unfold laws_sameInts.f
  simp only [if_true]
  exact laws_sameInts_loop l [] h

end Go.Proofs.Ytfkjnpgpofcinaa.Pure
