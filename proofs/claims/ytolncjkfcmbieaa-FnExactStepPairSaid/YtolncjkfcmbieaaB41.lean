/- What functions of the program answer, as plain functions: used by the laws of this claim. -/
import Derived.Test.YtolncjkfcmbieaaB0
import Derived.Test.YtolncjkfcmbieaaF41
import Derived.Test.YtolncjkfcmbieaaB34
import Derived.Test.YtolncjkfcmbieaaB35
import Derived.Test.YtolncjkfcmbieaaB40
import Derived.Test.YtolncjkfcmbieaaQTree
namespace Go.Proofs.Ytolncjkfcmbieaa.Pure
open Go.RowKit Go.Proofs.Ytolncjkfcmbieaa.P Go.Proofs.YtolncjkfcmbieaaW.PrintWords Go.Proofs.Ytolncjkfcmbieaa.Q
set_option linter.unusedVariables false
set_option linter.unusedSimpArgs false

theorem spec_StepPair_ev (st lf : List Int) (ln : List S127) (kind k : Int) (h0 : st.length ≤ 1048576) (h1 : lf.length ≤ 1048576) (h2 : ln.length ≤ 1048576) : Ev (fun n => spec_StepPair.f n st lf ln kind k) (stepped st lf ln kind k) := by
  unfold spec_StepPair.f stepped
  simp only [ev_bind (spec_GoodPair_ev st lf ln (by omega))]
  cases g : goodP st lf ln
  · simp only [Bool.false_eq_true, if_false, ev_some]; rfl
  · obtain ⟨a, b, c, d, rfl, rfl⟩ := goodP_two g
    obtain ⟨v, hv, hc⟩ := spec_l3Step_ev a b c d ln kind k g
    have hl := stepP_len a b c d ln kind k (goodP_ln g)
    simp only [if_true, spec_l3Own_eq _ _ _ (by simp : ([a, b] : List Int).length ≤ 2097152) (by simp : ([c, d] : List Int).length ≤ 2097152) (by omega : ln.length ≤ 2097152), Option.bind_some, ev_bind hv]
    rcases hc with ⟨ht, rfl⟩ | ⟨hf, hn⟩
    · simp only [ht, if_true, spec_l3Own_eq _ _ _ (by omega : (stepP a b c d ln kind k).1.length ≤ 2097152) (by omega : (stepP a b c d ln kind k).2.1.length ≤ 2097152) (by omega : (stepP a b c d ln kind k).2.2.1.length ≤ 2097152), Option.bind_some, ev_some]
      rw [← ht]
    · simp only [hf, Bool.false_eq_true, if_false, ev_some]
      exact hn.symm

end Go.Proofs.Ytolncjkfcmbieaa.Pure
