/- What functions of the program answer, as plain functions: used by the laws of this claim. -/
import Derived.Test.YtenedmcobknefaaB0
import Derived.Test.YtenedmcobknefaaF10
import Derived.Test.YtenedmcobknefaaB1
import Derived.Test.YtenedmcobknefaaB2
import Derived.Test.YtenedmcobknefaaB3
import Derived.Test.YtenedmcobknefaaB4
import Derived.Test.YtenedmcobknefaaB5
import Derived.Test.YtenedmcobknefaaB8
namespace Go.Proofs.Ytenedmcobknefaa.Pure
open Go.RowKit Go.Proofs.Ytenedmcobknefaa.P Go.Proofs.YtenedmcobknefaaW.PrintWords Go.Proofs.Ytenedmcobknefaa.Q
set_option linter.unusedVariables false
set_option linter.unusedSimpArgs false

theorem impl_DropOld_ev (room : Int) (l : List S27) (a b : Int) (h : l.length ≤ 1000000) : Ev (fun k => impl_DropOld.f k room l a b) (dropV room l a b) := by
  unfold impl_DropOld.f dropV
  simp only [ev_bind (impl_GoodTable_ev room l h), ev_ite, impl_in_eq, Option.bind_some]
  by_cases h1 : goodT room l = true
  · simp only [if_pos h1]
    by_cases h2 : inB 0 10000 a = true
    · simp only [if_pos h2]
      by_cases h3 : inB 0 10000 b = true
      · simp only [if_pos h3]
        refine (ev_bind (impl_Table_kept_ev room l (fun _ _ z => decide (wrap64 (a - b) ≤ z)) h)).2 ?_
        exact Ev.now _
      · simp only [if_neg h3, ev_some]
    · simp only [if_neg h2, ev_some]
  · simp only [if_neg h1, ev_some]

theorem spec_DrawPortOf_ok (l : List Int) (hl : bytesL l) : ∃ r R a, Ev (fun k => spec_DrawPortOf.f k l) (r, R, a) ∧ R.length ≤ 64 := by
  obtain ⟨r, R, a1, s1, e1, h, p0, p1⟩ := spec_l1Cur_learned_ok l hl 0 0 (by omega) (by omega)
  obtain ⟨v, a2, s2, e2, _, _, q0, q1⟩ := spec_l1Cur_pick_ok l a1 s1 11 hl p0 (by omega) (by omega)
  refine ⟨r, R, v, ?_, h⟩
  unfold spec_DrawPortOf.f
  rw [slices_xorshift_Next_eq]
  refine ev_some_bind.2 ?_
  refine (ev_bind e1).2 ?_
  simp only [e2, Option.bind_some]
  exact Ev.now _

theorem spec_l13Find_loop (a : Int) (t : List S27) : ∀ p : List S27, (p ++ t).length ≤ 1000000 → Ev (fun k => spec_l13Find.l0 k a (p ++ t) ((p ++ t).length : Int) (p.length : Int)) (findV (fun s => s.f0 == a) p.length t) := by
  induction t with
  | nil =>
    intro p _
    refine ev_succ.1 ?_
    simp only [spec_l13Find.l0, c_end, List.append_nil, Int.lt_irrefl, if_false, findV, ev_some]
  | cons y t ih =>
    intro p hb
    refine ev_succ.1 ?_
    have hi := ih (p ++ [y]) (by rwa [← c_app])
    rw [← c_app] at hi
    simp only [spec_l13Find.l0, c_lt, c_nn, rdSeen_at, c_next p y t (by omega), if_true, findV, beq_iff_eq]
    by_cases h : y.f0 = a
    · simp only [if_pos h]; exact Ev.now _
    · simp only [if_neg h]
      simpa using hi
theorem spec_l13Find_ev (room : Int) (l : List S27) (a : Int) (h : l.length ≤ 1000000) : Ev (fun k => spec_l13Find.f k room l a) (findV (fun s => s.f0 == a) 0 l) := by
  unfold spec_l13Find.f
  exact spec_l13Find_loop a l [] (by simpa using h)

theorem spec_PortOf_ev (room : Int) (l : List S27) (a : Int) (h : l.length ≤ 1000000) : Ev (fun k => spec_PortOf.f k room l a) (portV room l a) := by
  have hf := findV_le (fun s : S27 => s.f0 == a) l 0
  unfold spec_PortOf.f portV
  simp only [ev_bind (spec_l13Find_ev room l a h), ev_bind (spec_GoodTable_ev room l h), ev_ite, ev_some]
  by_cases h1 : goodT room l = true
  · simp only [if_pos h1]
    by_cases h2 : findV (fun s => s.f0 == a) 0 l < 0
    · simp only [if_pos h2]
    · simp only [if_neg h2, show (0 ≤ findV (fun s => s.f0 == a) 0 l) = True from eq_true (by omega), show (findV (fun s => s.f0 == a) 0 l < (l.length : Int)) = True from eq_true (by omega), if_true]
  · simp only [if_neg h1]

theorem spec_DrawDropOld_ok (l : List Int) (hl : bytesL l) : ∃ r R a b, Ev (fun k => spec_DrawDropOld.f k l) (r, R, a, b) ∧ R.length ≤ 64 := by
  obtain ⟨r, R, a1, s1, e1, h, p0, p1⟩ := spec_l1Cur_learned_ok l hl 0 0 (by omega) (by omega)
  obtain ⟨v, a2, s2, e2, _, q0, q1⟩ := spec_l1Cur_among_ok l a1 s1 [(-1), 0, 20, 40, 10000, 10001] hl p0 (by omega) (by simp) (by simp)
  obtain ⟨v2, a3, s3, e3, _, _, _⟩ := spec_l1Cur_among_ok l a2 s2 [(-1), 0, 5, 10, 10000] hl (by omega) (by omega) (by simp) (by simp)
  refine ⟨r, R, v, v2, ?_, h⟩
  unfold spec_DrawDropOld.f
  rw [slices_xorshift_Next_eq]
  refine ev_some_bind.2 ?_
  refine (ev_bind e1).2 ?_
  simp only [e2, e3, Option.bind_some]
  exact Ev.now _

end Go.Proofs.Ytenedmcobknefaa.Pure
