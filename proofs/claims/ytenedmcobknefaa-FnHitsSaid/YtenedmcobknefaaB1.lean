/- What functions of the program answer, as plain functions: used by the laws of this claim. -/
import Derived.Test.YtenedmcobknefaaB0
import Derived.Test.YtenedmcobknefaaF1
namespace Go.Proofs.Ytenedmcobknefaa.Pure
open Go.RowKit Go.Proofs.Ytenedmcobknefaa.P Go.Proofs.YtenedmcobknefaaW.PrintWords Go.Proofs.Ytenedmcobknefaa.Q
set_option linter.unusedVariables false
set_option linter.unusedSimpArgs false

/-- What is read of a byte. -/
def bytesL (l : List Int) : Prop := ∀ x ∈ l, 0 ≤ x ∧ x ≤ 255
theorem bytesL_wf {l : List Int} (h : ∀ y ∈ l, (Lit.int .u8 y).wf = true) : bytesL l := by
  intro x hx
  have := h x hx
  simp [Lit.wf, Go.IntKind.min, Go.IntKind.max, Go.IntKind.bits, Go.IntKind.signed] at this
  omega
theorem and255 (x : Int) : 0 ≤ wrap64 (Go.bits .and .u64 x 255) ∧ wrap64 (Go.bits .and .u64 x 255) ≤ 255 := by
  have hn : (BitVec.ofInt 64 x &&& BitVec.ofInt 64 255).toNat ≤ 255 := by
    rw [BitVec.toNat_and]
    exact Nat.le_trans Nat.and_le_right (by decide)
  have e : Go.bits .and .u64 x 255 = Go.IntKind.u64.wrap ((BitVec.ofInt 64 x &&& BitVec.ofInt 64 255).toNat : Int) := rfl
  rw [e]
  generalize (BitVec.ofInt 64 x &&& BitVec.ofInt 64 255).toNat = n at hn
  have h1 : Go.IntKind.u64.wrap (n : Int) = n := by
    unfold Go.IntKind.wrap
    simp [Go.IntKind.bits, Go.IntKind.signed]
    omega
  rw [h1, w64 (by omega) (by omega)]
  omega
theorem spec_l1Cur_next_ok (l : List Int) (at_ seed : Int) (hl : bytesL l) (h0 : 0 ≤ at_) (h1 : at_ ≤ 1000000000000) : ∃ v s, spec_l1Cur_next.f l at_ seed = some (v, at_ + 1, s) ∧ 0 ≤ v ∧ v ≤ 255 := by
  have hw : wrap64 (at_ + 1) = at_ + 1 := w64 (by omega) (by omega)
  unfold spec_l1Cur_next.f
  by_cases h : at_ < (l.length : Int)
  · have hm : rd l at_ ∈ l := by
      unfold rd
      rw [List.getD_eq_getElem?_getD, List.getElem?_eq_getElem (by omega)]
      exact List.getElem_mem _
    have hb := hl _ hm
    have hw2 : wrap64 (rd l at_) = rd l at_ := w64 (by omega) (by omega)
    rw [if_pos h, if_pos h0, hw, if_pos (by omega), hw2]
    exact ⟨_, _, rfl, hb.1, hb.2⟩
  · rw [if_neg h, hw, if_neg (by omega)]
    exact ⟨_, _, rfl, (and255 _).1, (and255 _).2⟩

theorem spec_l1Cur_pick_ok (l : List Int) (at_ seed n : Int) (hl : bytesL l) (h0 : 0 ≤ at_) (h1 : at_ ≤ 100000000000) (hn : n ≤ 1000000000) : ∃ v a s, spec_l1Cur_pick.f l at_ seed n = some (v, a, s) ∧ 0 ≤ v ∧ (v < n ∨ v = 0) ∧ at_ ≤ a ∧ a ≤ at_ + 2 := by
  unfold spec_l1Cur_pick.f
  by_cases hs : n ≤ 1
  · exact ⟨0, at_, seed, by rw [if_pos hs], by omega, .inr rfl, by omega, by omega⟩
  · obtain ⟨v, s, e, b0, b1⟩ := spec_l1Cur_next_ok l at_ seed hl h0 (by omega)
    rw [if_neg hs, e, Option.bind_some]
    by_cases h2 : n > 200
    · obtain ⟨v2, s2, e2, c0, c1⟩ := spec_l1Cur_next_ok l (at_ + 1) s hl (by omega) (by omega)
      have hw : wrap64 (v * 256) = v * 256 := w64 (by omega) (by omega)
      have hw2 : wrap64 (v * 256 + v2) = v * 256 + v2 := w64 (by omega) (by omega)
      have hm : Int.tmod (v * 256 + v2) n = (v * 256 + v2) % n := Int.tmod_eq_emod_of_nonneg (by omega)
      have m0 := Int.emod_nonneg (v * 256 + v2) (show n ≠ 0 by omega)
      have m1 := Int.emod_lt_of_pos (v * 256 + v2) (show 0 < n by omega)
      simp only [if_pos h2, e2, Option.bind_some, if_neg (show ¬ n = 0 by omega), hw, hw2, hm]
      exact ⟨_, _, _, rfl, m0, .inl m1, by omega, by omega⟩
    · have hm : Int.tmod v n = v % n := Int.tmod_eq_emod_of_nonneg b0
      have m0 := Int.emod_nonneg v (show n ≠ 0 by omega)
      have m1 := Int.emod_lt_of_pos v (show 0 < n by omega)
      simp only [if_neg h2, if_neg (show ¬ n = 0 by omega), hm]
      exact ⟨_, _, _, rfl, m0, .inl m1, by omega, by omega⟩

theorem spec_l13Learn_loop (room r2 : Int) (L : List S27) (x : S27) (b c : Int) (t : List S27) : ∀ p : List S27, (p ++ t).length ≤ 1000000 → Ev (fun k => spec_l13Learn.l0 k (p ++ t) ((p ++ t).length : Int) (p.length : Int) room L x.f0 b c r2 (learnV room p x)) (r2, learnV room (p ++ t) x) := by
  induction t with
  | nil =>
    intro p _
    refine ev_succ.1 ?_
    simp only [spec_l13Learn.l0, c_end, List.append_nil, Int.lt_irrefl, if_false, ev_some]
  | cons y t ih =>
    intro p hb
    refine ev_succ.1 ?_
    have hq : ((p ++ [y]) ++ t).length ≤ 1000000 := by rwa [← c_app]
    have hi := ih (p ++ [y]) hq
    rw [← c_app] at hi
    have hlen := learnV_length room p x
    have hpl : p.length ≤ 1000000 := by simp at hb; omega
    simp only [spec_l13Learn.l0, c_lt, c_nn, rdSeen_at, c_next p y t (by omega), if_true, etaSeen, show ((learnV room p x).length < 5864062014805) = True from eq_true (by omega)]
    by_cases h : y.f0 = x.f0
    · have e : learnV room (p ++ [y]) x = learnV room p x := by simp [learnV, h]
      simp only [if_pos h]
      rwa [e] at hi
    · simp only [if_neg h]
      have e : learnV room (p ++ [y]) x = if ((learnV room p x).length : Int) < room then learnV room p x ++ [y] else learnV room p x := by
        have e1 : (p ++ [y]).filter (fun z => z.f0 != x.f0) = p.filter (fun z => z.f0 != x.f0) ++ [y] := by simp [h]
        have hl2 : (learnV room p x).length = 1 + min (room - 1).toNat (p.filter (fun z => z.f0 != x.f0)).length := by simp [learnV]; omega
        unfold learnV at hl2 ⊢
        rw [e1, take_snoc]
        by_cases h2 : (p.filter (fun z => z.f0 != x.f0)).length < (room - 1).toNat
        · rw [if_pos h2, if_pos (by rw [hl2]; omega)]; simp
        · rw [if_neg h2, if_neg (by rw [hl2]; omega)]
      by_cases h2 : ((learnV room p x).length : Int) < room
      · simp only [if_pos h2] at e ⊢
        rwa [e] at hi
      · simp only [if_neg h2] at e ⊢
        rwa [e] at hi
theorem spec_l13Learn_ev (room : Int) (l : List S27) (x : S27) (h : l.length ≤ 1000000) : Ev (fun k => spec_l13Learn.f k room l x.f0 x.f1 x.f2) (room, learnV room l x) := by
  unfold spec_l13Learn.f
  have hl := spec_l13Learn_loop room room l x x.f1 x.f2 l [] (by simpa using h)
  have e : learnV room [] x = [x] := by simp [learnV]
  rw [e] at hl
  exact hl

theorem spec_l1In_eq (a b c : Int) : spec_l1In.f a b c = some (inB b c a) := by
  unfold spec_l1In.f inB
  by_cases h1 : a ≥ b <;> by_cases h2 : a ≤ c <;> simp [h1, h2] <;> omega

theorem spec_l13Row_eq (a b c : Int) : spec_l13Row.f a b c = some (seen3 a b c) := by
  unfold spec_l13Row.f seen3
  simp only [spec_l1In_eq, Option.bind_some]
  cases inB 1 99 a <;> cases inB 0 9 b <;> simp

end Go.Proofs.Ytenedmcobknefaa.Pure
