/- What functions of the program answer, as plain functions: used by the laws of this claim. -/
import Derived.Test.YtenedmcobknefaaB0
import Derived.Test.YtenedmcobknefaaF4
import Derived.Test.YtenedmcobknefaaB1
import Derived.Test.YtenedmcobknefaaB2
import Derived.Test.YtenedmcobknefaaB3
namespace Go.Proofs.Ytenedmcobknefaa.Pure
open Go.RowKit Go.Proofs.Ytenedmcobknefaa.P Go.Proofs.YtenedmcobknefaaW.PrintWords Go.Proofs.Ytenedmcobknefaa.Q
set_option linter.unusedVariables false
set_option linter.unusedSimpArgs false

theorem spec_DrawLearn_ok (l : List Int) (hl : bytesL l) : ∃ r R a b c, Ev (fun k => spec_DrawLearn.f k l) (r, R, a, b, c) ∧ R.length ≤ 64 := by
  obtain ⟨r, R, a1, s1, e1, h, p0, p1⟩ := spec_l1Cur_learned_ok l hl 0 0 (by omega) (by omega)
  obtain ⟨v, a2, s2, e2, _, _, q0, q1⟩ := spec_l1Cur_pick_ok l a1 s1 9 hl p0 (by omega) (by omega)
  obtain ⟨v2, a3, s3, e3, _, _, r0, r1⟩ := spec_l1Cur_pick_ok l a2 s2 4 hl (by omega) (by omega) (by omega)
  obtain ⟨v3, a4, s4, e4, _, _, _⟩ := spec_l1Cur_among_ok l a3 s3 [0, 50, 100, 10000, 10001] hl (by omega) (by omega) (by simp) (by simp)
  refine ⟨r, R, wrap64 (1 + v), v2, v3, ?_, h⟩
  unfold spec_DrawLearn.f
  rw [slices_xorshift_Next_eq]
  refine ev_some_bind.2 ?_
  refine (ev_bind e1).2 ?_
  simp only [e2, e3, e4, Option.bind_some]
  exact Ev.now _

theorem impl_in_eq (a b c : Int) : impl_in.f a b c = some (inB b c a) := by
  unfold impl_in.f inB
  by_cases h1 : a ≥ b <;> by_cases h2 : a ≤ c <;> simp [h1, h2] <;> omega

theorem impl_isSeen_eq (a b c : Int) : impl_isSeen.f a b c = some (seen3 a b c) := by
  unfold impl_isSeen.f seen3
  simp only [impl_in_eq, Option.bind_some]
  cases inB 1 99 a <;> cases inB 0 9 b <;> simp

theorem impl_Seen_loop (g : Int → Int → Int → Bool) (t : List S27) : ∀ p : List S27, (p ++ t).length ≤ 1000000 → Ev (fun k => impl_Seen.l0 (fun x y z => some (g x y z)) k (p ++ t) ((p ++ t).length : Int) (p.length : Int)) (findV (fun s => g s.f0 s.f1 s.f2) p.length t) := by
  induction t with
  | nil =>
    intro p _
    refine ev_succ.1 ?_
    simp only [impl_Seen.l0, c_end, List.append_nil, Int.lt_irrefl, if_false, findV, ev_some]
  | cons y t ih =>
    intro p hb
    refine ev_succ.1 ?_
    have hq : ((p ++ [y]) ++ t).length ≤ 1000000 := by rwa [← c_app]
    have hi := ih (p ++ [y]) hq
    rw [← c_app] at hi
    simp only [impl_Seen.l0, c_lt, c_nn, rdSeen_at, c_next p y t (by omega), if_true, Option.bind_some, findV]
    by_cases h : g y.f0 y.f1 y.f2 = true
    · simp only [h, if_true]; exact Ev.now _
    · simp only [if_neg h]
      simpa using hi
theorem impl_Seen_ev (g : Int → Int → Int → Bool) (l : List S27) (h : l.length ≤ 1000000) : Ev (fun k => impl_Seen.f k l (fun x y z => some (g x y z))) (findV (fun s => g s.f0 s.f1 s.f2) 0 l) := by
  unfold impl_Seen.f
  exact impl_Seen_loop g l [] (by simpa using h)

theorem impl_row_ev (l : List S27) (a : Int) (h : l.length ≤ 1000000) : Ev (fun k => impl_row.f k l a) (findV (fun s => s.f0 == a) 0 l) := by
  unfold impl_row.f
  refine (ev_bind (impl_Seen_ev (fun x _ _ => x == a) l h)).2 ?_
  exact Ev.now _

end Go.Proofs.Ytenedmcobknefaa.Pure
