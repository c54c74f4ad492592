/- What functions of the program answer, as plain functions: used by the laws of this claim. -/
import Derived.Test.YtefdgdloghhnaaaB0
import Derived.Test.YtefdgdloghhnaaaF10
import Derived.Test.YtefdgdloghhnaaaB3
import Derived.Test.YtefdgdloghhnaaaB4
import Derived.Test.YtefdgdloghhnaaaB9
import Derived.Test.YtefdgdloghhnaaaQFlow
import Derived.Test.YtefdgdloghhnaaaQTree
namespace Go.Proofs.Ytefdgdloghhnaaa.Pure
open Go.RowKit Go.Proofs.Ytefdgdloghhnaaa.P Go.Proofs.YtefdgdloghhnaaaW.PrintWords Go.Proofs.Ytefdgdloghhnaaa.Q
set_option linter.unusedVariables false
set_option linter.unusedSimpArgs false

theorem spec_StepPair_ev (st lf : List Int) (ln : List S36) (kind k : Int) (h0 : st.length ≤ 1048576) (h1 : lf.length ≤ 1048576) (h2 : ln.length ≤ 1048576) : Ev (fun n => spec_StepPair.f n st lf ln kind k) (stepped st lf ln kind k) := by
  unfold spec_StepPair.f stepped
  simp only [ev_bind (spec_GoodPair_ev st lf ln (by omega))]
  cases g : goodP st lf ln
  · simp only [Bool.false_eq_true, if_false, ev_some]; rfl
  · obtain ⟨a, b, c, d, rfl, rfl⟩ := goodP_two g
    obtain ⟨v, hv, hc⟩ := spec_l3Step_ev a b c d ln kind k g
    have hl := stepP_len a b c d ln kind k (goodP_ln g)
    simp only [if_true, spec_l3Own_eq _ _ _ (by simp : ([a, b] : List Int).length ≤ 2097152) (by simp : ([c, d] : List Int).length ≤ 2097152) (by omega : ln.length ≤ 2097152), Option.bind_some, ev_bind hv]
    rcases hc with ⟨ht, rfl⟩ | ⟨hf, hn⟩
    · simp only [ht, if_true, spec_l3Own_eq _ _ _ (by omega : (stepP a b c d ln kind k).1.length ≤ 2097152) (by omega : (stepP a b c d ln kind k).2.1.length ≤ 2097152) (by omega : (stepP a b c d ln kind k).2.2.1.length ≤ 2097152), Option.bind_some, ev_some]
      rw [← ht]
    · simp only [hf, Bool.false_eq_true, if_false, ev_some]
      exact hn.symm

theorem laws_sameInts_loop (t : List Int) : ∀ p : List Int, (p ++ t).length ≤ 9223372036854775806 → Ev (fun k => laws_sameInts.l0 k (p ++ t) (p ++ t) ((p ++ t).length : Int) (p.length : Int)) true := by
  induction t with
  | nil =>
    intro p _
    refine ev_succ.1 ?_
    simp only [laws_sameInts.l0, c_end, Int.lt_irrefl, if_false, ev_some]
  | cons x t ih =>
    intro p hb
    refine ev_succ.1 ?_
    simp only [laws_sameInts.l0, c_lt, c_nn, c_next _ _ _ hb, if_true]
    rw [c_app p x t]
    exact ih (p ++ [x]) (by rwa [← c_app])
theorem laws_sameInts_ev (l : List Int) (h : l.length ≤ 9223372036854775806) : Ev (fun k => laws_sameInts.f k l l) true := by
  unfold laws_sameInts.f
  simp only [if_true]
  exact laws_sameInts_loop l [] h

end Go.Proofs.Ytefdgdloghhnaaa.Pure
