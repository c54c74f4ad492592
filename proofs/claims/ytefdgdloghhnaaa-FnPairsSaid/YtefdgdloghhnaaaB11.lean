/- What functions of the program answer, as plain functions: used by the laws of this claim. -/
import Derived.Test.YtefdgdloghhnaaaB0
import Derived.Test.YtefdgdloghhnaaaF11
import Derived.Test.YtefdgdloghhnaaaB1
import Derived.Test.YtefdgdloghhnaaaB6
import Derived.Test.YtefdgdloghhnaaaB10
import Derived.Test.YtefdgdloghhnaaaQFlow
namespace Go.Proofs.Ytefdgdloghhnaaa.Pure
open Go.RowKit Go.Proofs.Ytefdgdloghhnaaa.P Go.Proofs.YtefdgdloghhnaaaW.PrintWords Go.Proofs.Ytefdgdloghhnaaa.Q
set_option linter.unusedVariables false
set_option linter.unusedSimpArgs false

theorem laws_samePair_loop (a b : List Int) (t : List S36) : ∀ p : List S36, (p ++ t).length ≤ 9223372036854775806 → Ev (fun k => laws_samePair.l0 k ((p ++ t).length : Int) (p.length : Int) a b (p ++ t) a b (p ++ t)) true := by
  induction t with
  | nil =>
    intro p _
    refine ev_succ.1 ?_
    simp only [laws_samePair.l0, c_end, Int.lt_irrefl, if_false, ev_some]
  | cons x t ih =>
    intro p hb
    refine ev_succ.1 ?_
    simp only [laws_samePair.l0, c_lt, c_nn, beq_self_eq_true, Bool.not_true, Bool.or_self, Bool.false_eq_true, if_false, c_next _ _ _ hb, if_true]
    rw [c_app p x t]
    exact ih (p ++ [x]) (by rwa [← c_app])
theorem laws_samePair_ev (a b : List Int) (l : List S36) (ha : a.length ≤ 9223372036854775806) (hb : b.length ≤ 9223372036854775806) (h : l.length ≤ 9223372036854775806) : Ev (fun k => laws_samePair.f k a b l a b l) true := by
  unfold laws_samePair.f
  simp only [ev_bind (laws_sameInts_ev a ha), ev_bind (laws_sameInts_ev b hb), if_true, bne_self_eq_false]
  refine ev_succ.1 ?_
  simp only [laws_samePair.j0, Bool.false_eq_true, if_false]
  exact laws_samePair_loop a b l [] h

theorem spec_DrawGoodPair_ok (l : List Int) (hl : bytesL l) : ∃ st lf ln, Ev (fun k => spec_DrawGoodPair.f k l) (st, lf, ln) ∧ st.length = 2 ∧ lf.length = 2 ∧ ln.length ≤ 12 := by
  obtain ⟨st, lf, ln, a, s, e1, k0, k1, k2, p0, p1⟩ := spec_l1Cur_pair_ok l hl 0 0 (by omega) (by omega)
  refine ⟨st, lf, ln, ?_, k0, k1, k2⟩
  unfold spec_DrawGoodPair.f
  simp only [slices_xorshift_Next_eq, Option.bind_some, ev_bind e1, ev_some]

theorem spec_DrawSettlePair_ok (l : List Int) (hl : bytesL l) : ∃ st lf ln, Ev (fun k => spec_DrawSettlePair.f k l) (st, lf, ln) ∧ st.length = 2 ∧ lf.length = 2 ∧ ln.length ≤ 12 := by
  obtain ⟨st, lf, ln, e1, k0, k1, k2⟩ := spec_DrawGoodPair_ok l hl
  refine ⟨st, lf, ln, ?_, k0, k1, k2⟩
  unfold spec_DrawSettlePair.f
  simp only [ev_bind e1, ev_some]

end Go.Proofs.Ytefdgdloghhnaaa.Pure
