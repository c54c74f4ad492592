/- What functions of the program answer, as plain functions: used by the laws of this claim. -/
import Derived.Test.YtenedmcobknefaaB0
import Derived.Test.YtenedmcobknefaaF3
import Derived.Test.YtenedmcobknefaaB1
import Derived.Test.YtenedmcobknefaaB2
namespace Go.Proofs.Ytenedmcobknefaa.Pure
open Go.RowKit Go.Proofs.Ytenedmcobknefaa.P Go.Proofs.YtenedmcobknefaaW.PrintWords Go.Proofs.Ytenedmcobknefaa.Q
set_option linter.unusedVariables false
set_option linter.unusedSimpArgs false

theorem spec_l1Cur_heard_last (l : List Int) (hl : bytesL l) (o : List S27) (b : Bool) (ho : b = true → 0 < o.length) (hol : o.length ≤ 1000) (at_ seed : Int) (h0 : 0 ≤ at_) (h1 : at_ ≤ 10000000) : ∃ r a s, Ev (fun k => spec_l1Cur_heard.j2 k o b l at_ seed) (r, a, s) ∧ r.length = o.length ∧ at_ ≤ a ∧ a ≤ at_ + 6 := by
  cases b
  · refine ⟨o, at_, seed, ev_succ.1 ?_, rfl, by omega, by omega⟩
    simp only [spec_l1Cur_heard.j2, Bool.false_eq_true, if_false]
    exact Ev.now _
  · have hlen := ho rfl
    obtain ⟨v, a1, s1, e1, _, p0, p1⟩ := spec_l1Cur_among_ok l at_ seed [0, 99, 100] hl h0 (by omega) (by simp) (by simp)
    obtain ⟨v2, a2, s2, e2, _, q0, q1⟩ := spec_l1Cur_among_ok l a1 s1 [(-1), 9, 10] hl (by omega) (by omega) (by simp) (by simp)
    obtain ⟨v3, a3, s3, e3, _, r0, r1⟩ := spec_l1Cur_among_ok l a2 s2 [(-1), 10000, 10001] hl (by omega) (by omega) (by simp) (by simp)
    have hw : wrap64 ((o.length : Int) - 1) = (o.length : Int) - 1 := w64 (by omega) (by omega)
    refine ⟨o.set ((o.length : Int) - 1).toNat ⟨v, v2, v3⟩, a3, s3, ev_succ.1 ?_, by simp, by omega, by omega⟩
    simp only [spec_l1Cur_heard.j2, if_true, e1, e2, e3, Option.bind_some, hw, show (0 ≤ (o.length : Int) - 1) = True from eq_true (by omega), show ((o.length : Int) - 1 < (o.length : Int)) = True from eq_true (by omega)]
    exact Ev.now _
theorem spec_l1Cur_heard_loop (l : List Int) (hl : bytesL l) : ∀ (m : Nat) (o : List S27) (t at_ seed : Int), 0 ≤ at_ → at_ + 20 * m ≤ 1000000 → o.length + m ≤ 1000 → ∃ r a s, Ev (fun k => spec_l1Cur_heard.l0 k o t (m : Int) l at_ seed) (r, a, s) ∧ r.length ≤ o.length + m ∧ at_ ≤ a ∧ a ≤ at_ + 20 * m + 10 := by
  intro m
  induction m with
  | zero =>
    intro o t at_ seed h0 h1 h2
    by_cases ho : (o.length : Int) > 0
    · obtain ⟨b, a1, s1, e1, p0, p1⟩ := spec_l1Cur_one_ok l at_ seed 20 hl h0 (by omega) (by omega)
      obtain ⟨r, a, s, he, k0, k1, k2⟩ := spec_l1Cur_heard_last l hl o b (fun _ => by omega) (by omega) a1 s1 (by omega) (by omega)
      refine ⟨r, a, s, ev_succ.1 ?_, by omega, by omega, by omega⟩
      simp only [spec_l1Cur_heard.l0, show (((0 : Nat) : Int) > 0) = False from eq_false (by omega), if_false, if_pos ho, e1, Option.bind_some]
      exact he
    · obtain ⟨r, a, s, he, k0, k1, k2⟩ := spec_l1Cur_heard_last l hl o false (fun h => by simp at h) (by omega) at_ seed (by omega) (by omega)
      refine ⟨r, a, s, ev_succ.1 ?_, by omega, by omega, by omega⟩
      simp only [spec_l1Cur_heard.l0, show (((0 : Nat) : Int) > 0) = False from eq_false (by omega), if_false, if_neg ho]
      exact he
  | succ m ih =>
    intro o t at_ seed h0 h1 h2
    have hw : wrap64 (((m + 1 : Nat) : Int) - 1) = (m : Int) := by rw [w64 (by omega) (by omega)]; omega
    obtain ⟨v, a1, s1, e1, _, _, p0, p1⟩ := spec_l1Cur_pick_ok l at_ seed 3 hl h0 (by omega) (by omega)
    obtain ⟨v2, a2, s2, e2, _, _, q0, q1⟩ := spec_l1Cur_pick_ok l a1 s1 9 hl (by omega) (by omega) (by omega)
    obtain ⟨v3, a3, s3, e3, _, _, r0, r1⟩ := spec_l1Cur_pick_ok l a2 s2 4 hl (by omega) (by omega) (by omega)
    obtain ⟨r, a, s, he, k0, k1, k2⟩ := ih (o ++ [⟨wrap64 (1 + v2), v3, wrap64 (t + v)⟩]) (wrap64 (t + v)) a3 s3 (by omega) (by omega) (by simp; omega)
    refine ⟨r, a, s, ev_succ.1 ?_, by simp at k0; omega, by omega, by omega⟩
    simp only [spec_l1Cur_heard.l0, show (((m + 1 : Nat) : Int) > 0) = True from eq_true (by omega), if_true, e1, e2, e3, Option.bind_some, show (o.length < 5864062014805) = True from eq_true (by omega), hw]
    exact he
theorem spec_l1Cur_heard_ok (l : List Int) (hl : bytesL l) (at_ seed : Int) (h0 : 0 ≤ at_) (h1 : at_ ≤ 100000) : ∃ r a s, Ev (fun k => spec_l1Cur_heard.f k l at_ seed) (r, a, s) ∧ r.length ≤ 62 ∧ at_ ≤ a ∧ a ≤ at_ + 1300 := by
  have hj : ∀ (t n b c : Int), 0 ≤ n → n ≤ 62 → at_ ≤ b → b ≤ at_ + 10 → ∃ r a s, Ev (fun k => spec_l1Cur_heard.j0 k [] t n l b c) (r, a, s) ∧ r.length ≤ 62 ∧ at_ ≤ a ∧ a ≤ at_ + 1300 := by
    intro t n b c n0 n1 hb0 hb1
    obtain ⟨r, a, s, he, k0, k1, k2⟩ := spec_l1Cur_heard_loop l hl n.toNat [] t b c (by omega) (by omega) (by simp; omega)
    rw [show ((n.toNat : Nat) : Int) = n by omega] at he
    refine ⟨r, a, s, ev_succ.1 ?_, by simp at k0; omega, by omega, by omega⟩
    simp only [spec_l1Cur_heard.j0]
    exact he
  obtain ⟨v, a1, s1, e1, _, _, p0, p1⟩ := spec_l1Cur_pick_ok l at_ seed 20 hl h0 (by omega) (by omega)
  obtain ⟨n, a2, s2, e2, n0, n1, q0, q1⟩ := spec_l1Cur_pick_ok l a1 s1 20 hl (by omega) (by omega) (by omega)
  obtain ⟨b, a3, s3, e3, r0, r1⟩ := spec_l1Cur_one_ok l a2 s2 20 hl (by omega) (by omega) (by omega)
  rcases Bool.eq_false_or_eq_true b with hb | hb
  · obtain ⟨m, a4, s4, e4, m0, m1, t0, t1⟩ := spec_l1Cur_pick_ok l a3 s3 2 hl (by omega) (by omega) (by omega)
    have hw : wrap64 (60 + m) = 60 + m := w64 (by omega) (by omega)
    obtain ⟨r, a, s, he, k⟩ := hj v (60 + m) a4 s4 (by omega) (by omega) (by omega) (by omega)
    refine ⟨r, a, s, ?_, k⟩
    unfold spec_l1Cur_heard.f
    simp only [e1, e2, e3, e4, hb, Option.bind_some, if_true, hw]
    exact he
  · obtain ⟨r, a, s, he, k⟩ := hj v n a3 s3 (by omega) (by omega) (by omega) (by omega)
    refine ⟨r, a, s, ?_, k⟩
    unfold spec_l1Cur_heard.f
    simp only [e1, e2, e3, hb, Option.bind_some, Bool.false_eq_true, if_false]
    exact he

theorem spec_l1Cur_learned_ok (l : List Int) (hl : bytesL l) (at_ seed : Int) (h0 : 0 ≤ at_) (h1 : at_ ≤ 1000) : ∃ r R a s, Ev (fun k => spec_l1Cur_learned.f k l at_ seed) (r, R, a, s) ∧ R.length ≤ 64 ∧ at_ ≤ a ∧ a ≤ at_ + 1400 := by
  have hj : ∀ (rm : Int) (rows : List S27) (b c : Int), rows.length ≤ 63 → at_ ≤ b → b ≤ at_ + 1350 → ∃ r R a s, Ev (fun k => spec_l1Cur_learned.j0 k l b c rm rows) (r, R, a, s) ∧ R.length ≤ 64 ∧ at_ ≤ a ∧ a ≤ at_ + 1400 := by
    intro rm rows b c hr b0 b1
    obtain ⟨v, a1, s1, e1, _, _, p0, p1⟩ := spec_l1Cur_pick_ok l b c 20 hl (by omega) (by omega) (by omega)
    by_cases hv : v = 0
    · obtain ⟨v2, a2, s2, e2, _, _, q0, q1⟩ := spec_l1Cur_pick_ok l a1 s1 10 hl (by omega) (by omega) (by omega)
      refine ⟨v2, rows, a2, s2, ev_succ.1 ?_, by omega, by omega, by omega⟩
      simp only [spec_l1Cur_learned.j0, e1, e2, Option.bind_some, if_pos hv]
      exact Ev.now _
    · by_cases hv2 : v = 1
      · refine ⟨rm, rows ++ [⟨1, 0, 0⟩], a1, s1, ev_succ.1 ?_, by simp; omega, by omega, by omega⟩
        simp only [spec_l1Cur_learned.j0, e1, Option.bind_some, if_neg hv, if_pos hv2, show (rows.length < 5864062014805) = True from eq_true (by omega), if_true]
        exact Ev.now _
      · refine ⟨rm, rows, a1, s1, ev_succ.1 ?_, by omega, by omega, by omega⟩
        simp only [spec_l1Cur_learned.j0, e1, Option.bind_some, if_neg hv, if_neg hv2]
        exact Ev.now _
  obtain ⟨v, a1, s1, e1, _, _, p0, p1⟩ := spec_l1Cur_pick_ok l at_ seed 8 hl h0 (by omega) (by omega)
  obtain ⟨o, a2, s2, e2, ol, q0, q1⟩ := spec_l1Cur_heard_ok l hl a1 s1 (by omega) (by omega)
  obtain ⟨rm, rows, ok, e3, rl⟩ := spec_PlayTable_ok (wrap64 (1 + v)) o (by omega)
  unfold spec_l1Cur_learned.f
  simp only [e1, Option.bind_some, ev_bind e2, ev_bind e3]
  cases ok
  · simp only [Bool.false_eq_true, if_false]
    exact hj _ _ _ _ (by simp) (by omega) (by omega)
  · simp only [if_true]
    exact hj _ _ _ _ (by omega) (by omega) (by omega)

theorem slices_xorshift_Next_eq (l : List Int) : slices_xorshift_Next.f l = some (l, 0, 0) := rfl

end Go.Proofs.Ytenedmcobknefaa.Pure
