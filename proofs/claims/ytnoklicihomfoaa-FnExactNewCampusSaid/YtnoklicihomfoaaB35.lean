/- What functions of the program answer, as plain functions: used by the laws of this claim. -/
import Derived.Test.YtnoklicihomfoaaB0
import Derived.Test.YtnoklicihomfoaaF35
import Derived.Test.YtnoklicihomfoaaB1
import Derived.Test.YtnoklicihomfoaaB2
import Derived.Test.YtnoklicihomfoaaB11
import Derived.Test.YtnoklicihomfoaaB12
import Derived.Test.YtnoklicihomfoaaB13
import Derived.Test.YtnoklicihomfoaaB19
import Derived.Test.YtnoklicihomfoaaB37
namespace Go.Proofs.Ytnoklicihomfoaa.Pure
open Go.RowKit Go.Proofs.Ytnoklicihomfoaa.P Go.Proofs.YtnoklicihomfoaaW.PrintWords Go.Proofs.Ytnoklicihomfoaa.Q
set_option linter.unusedVariables false
set_option linter.unusedSimpArgs false

def newC (n : Int) (l : List S84) : Int × List S84 × List Int × List S118 × Bool := if goodE n (l.map trip) = true then (n, l, [], [], true) else (0, [], [], [], false)
theorem newC_form (n : Int) (l : List S84) : ∃ m e b, newC n l = (m, e, [], [], b) ∧ e.length ≤ l.length := by
  unfold newC
  split
  · exact ⟨_, _, _, rfl, Nat.le_refl _⟩
  · exact ⟨_, _, _, rfl, Nat.zero_le _⟩
theorem spec_NewCampus_ev (n : Int) (l : List S84) (h : l.length ≤ 1048576) : Ev (fun k => spec_NewCampus.f k n l) (newC n l) := by
  unfold spec_NewCampus.f newC
  simp only [ev_bind (spec_GoodEdges_ev n l (by omega)), Option.bind_some, List.nil_append, List.length_nil, Nat.zero_add, show (l.length < 5864062014805) = True from eq_true (by omega), if_true, ev_ite, ev_some]
  cases goodE n (l.map trip) <;> simp


theorem impl_NewCampus_ev (n : Int) (l : List S84) (h : l.length ≤ 1048576) : Ev (fun k => impl_NewCampus.f k n l) (newC n l) := by
  unfold impl_NewCampus.f newC
  simp only [ev_bind (impl_GoodEdges_ev n l (by omega)), impl_newCampus.f, impl_Edge.f, Option.bind_some, List.nil_append, List.length_nil, Nat.zero_add, show (l.length < 5864062014805) = True from eq_true (by omega), if_true, ev_ite, ev_some]
  cases goodE n (l.map trip) <;> simp

theorem laws_markPlaceS_nil (a : Int) : Ev (fun k => laws_markPlaceS.f k [] a) a := by
  unfold laws_markPlaceS.f
  refine ev_succ.1 ?_
  simp only [laws_markPlaceS.l0, List.length_nil, show ((0 : Int) < ((0 : Nat) : Int)) = False from eq_false (by omega), if_false, ev_some]

theorem laws_markCampus_ev (n : Int) (l : List S84) (h : l.length ≤ 1048576) : Ev (fun k => laws_markCampus.f k n l [] [] 1) (1 + 3 * l.length, marksE l.length 1, []) := by
  unfold laws_markCampus.f
  simp only [ev_bind (laws_markEdgeS_ev l 1 (by omega) (by omega) (by omega)), ev_bind (laws_markIntS_ev [] (1 + 3 * l.length) (by simp) (by omega) (by simp; omega)), List.length_nil, Int.add_zero, Int.ofNat_zero, marks, ev_bind (laws_markPlaceS_nil _), ev_some]


theorem laws_heldPlaceS_nil (a : Int) : Ev (fun k => laws_heldPlaceS.f k [] a) a := by
  unfold laws_heldPlaceS.f
  refine ev_succ.1 ?_
  simp only [laws_heldPlaceS.l0, List.length_nil, show ((0 : Int) < ((0 : Nat) : Int)) = False from eq_false (by omega), if_false, ev_some]

theorem laws_heldCampus_ev (n : Int) (m : Nat) (h : m ≤ 1048576) : Ev (fun k => laws_heldCampus.f k n (marksE m 1) [] [] 1) (1 + 3 * m) := by
  unfold laws_heldCampus.f
  have e := laws_heldIntS_ev 0 (1 + 3 * m) (by omega) (by omega) (by omega)
  simp only [marks, Int.ofNat_zero, Int.add_zero, show ((0 : Nat) : Int) = 0 from rfl] at e
  simp only [ev_bind (laws_heldEdgeS_ev m 1 (by omega) (by omega) (by omega)), show ((1 : Int) + 3 * (m : Int) < 0) = False from eq_false (by omega), if_false, ev_bind e, ev_bind (laws_heldPlaceS_nil _), ev_some]

end Go.Proofs.Ytnoklicihomfoaa.Pure
