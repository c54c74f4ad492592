/- The plain statement behind the law FnExactGoodCampus: for all arguments it answers true. -/
import Derived.Test.YtnoklicihomfoaaB0
import Derived.Test.YtnoklicihomfoaaF43
import Derived.Test.YtnoklicihomfoaaB38
import Derived.Test.YtnoklicihomfoaaB39
import Derived.Test.YtnoklicihomfoaaB40
import Derived.Test.YtnoklicihomfoaaB41
import Derived.Test.YtnoklicihomfoaaB42
namespace Go.Proofs.Ytnoklicihomfoaa.Pure
open Go.RowKit Go.Proofs.Ytnoklicihomfoaa.P Go.Proofs.YtnoklicihomfoaaW.PrintWords Go.Proofs.Ytnoklicihomfoaa.Q
set_option linter.unusedVariables false
set_option linter.unusedSimpArgs false

theorem FnExactGoodCampus (n : Int) (l0 : List S86) (d : List Int) (h0 : List S141) (_ : (Lit.int .i64 n).wf = true) (hl : l0.length ≤ maxLen ∧ ∀ y ∈ l0, G86 y) (hd : d.length ≤ maxLen ∧ ∀ y ∈ d, (Lit.int .i64 y).wf = true) (hh : h0.length ≤ maxLen ∧ ∀ y ∈ h0, G141 y) : ∃ k, laws_FnExactGoodCampus.f k n l0 d h0 = some true := by
  refine Ev.rounds ?_
  unfold laws_FnExactGoodCampus.f
  obtain ⟨r, hr, hr2⟩ := laws_szCampus_ev n l0 d h0 hl.1 hd.1 ⟨hh.1, fun x hx => (hh.2 x hx).2.2.1⟩
  simp only [ev_bind hr]
  rcases hr2 with hr2 | ⟨b1, b2, b3, hr2⟩
  · simp only [hr2, if_true]; exact Ev.now _
  have hto := laws_toCampus_ev n l0 d h0 b1 b2 b3
  have hs : (l0.map toE).length ≤ 1048576 := by simpa using b1
  have hp : plSize (h0.map toPl) ≤ 1048576 := by rw [lplSize_map]; exact b3
  generalize l0.map toE = l at hto hs
  generalize h0.map toPl = h at hto hp
  simp only [hr2, if_false, ev_bind hto, ev_bind (spec_GoodCampus_ev n l d h (by omega) (by omega) (by omega)), ev_bind (impl_GoodCampus_ev n l d h (by omega) (by omega) (by omega)), bne_self_eq_false, Bool.false_eq_true, ev_bind (laws_eqCampus_ev n l d h (by omega) (by omega) (by omega)), if_true]
  exact Ev.now _

end Go.Proofs.Ytnoklicihomfoaa.Pure
