/- What functions of the program answer, as plain functions: used by the laws of this claim. -/
import Derived.Test.YtnoklicihomfoaaB0
import Derived.Test.YtnoklicihomfoaaF37
import Derived.Test.YtnoklicihomfoaaB10
import Derived.Test.YtnoklicihomfoaaB17
namespace Go.Proofs.Ytnoklicihomfoaa.Pure
open Go.RowKit Go.Proofs.Ytnoklicihomfoaa.P Go.Proofs.YtnoklicihomfoaaW.PrintWords Go.Proofs.Ytnoklicihomfoaa.Q
set_option linter.unusedVariables false
set_option linter.unusedSimpArgs false

theorem spec_l8Without_eq (l : List S84) (i : Nat) (hi : i < l.length) (hb : l.length ≤ 1000000000) : spec_l8Without.f l (i : Int) = some (l.eraseIdx i) := by
  unfold spec_l8Without.f
  simp only [Option.bind_some, c_nn, if_true, Int.toNat_natCast, w64 (n := (i : Int) + 1) (by omega) (by omega), show ((i : Int) ≤ (l.length : Int)) = True from eq_true (by omega), show ((0 : Int) ≤ (i : Int) + 1) = True from eq_true (by omega), show ((i : Int) + 1 ≤ (l.length : Int)) = True from eq_true (by omega), List.nil_append, List.length_nil, List.length_take, Nat.zero_add, show (min i l.length < 5864062014805) = True from eq_true (by omega), List.length_drop, show (((i : Int) + 1)).toNat = i + 1 from by omega, show (min i l.length + (l.length - (i + 1)) < 5864062014805) = True from eq_true (by omega)]
  rw [List.eraseIdx_eq_take_drop_succ]

theorem spec_l16Edges_loop (n : Nat) (l : List S84) (hw : Within n (ends l)) (hb : l.length ≤ 1000000000) (hn : n ≤ 1000000000) : ∀ (d i : Nat) (o : List Int), i + d = l.length → o.length ≤ i → Ev (fun k => spec_l16Edges.l0 k (n : Int) l ((manyV n (ends l) : Nat) : Int) o (l.length : Int) (i : Int)) (o ++ cutFrom n (ends l) i d) := by
  intro d
  induction d with
  | zero =>
    intro i o hi ho
    refine ev_succ.1 ?_
    simp only [spec_l16Edges.l0, show ((i : Int) < (l.length : Int)) = False from eq_false (by omega), if_false, ev_some, cutFrom, List.append_nil]
  | succ d ih =>
    intro i o hi ho
    refine ev_succ.1 ?_
    have hm := spec_l16Many_ev n (l.eraseIdx i) (by rw [ends_erase]; exact within_erase hw i) (by rw [List.length_eraseIdx]; split <;> omega) hn
    simp only [spec_l16Edges.l0, show ((i : Int) < (l.length : Int)) = True from eq_true (by omega), if_true, spec_l8Without_eq l i (by omega) hb, Option.bind_some, ev_bind hm, ev_ite, show (o.length < 17592186044416) = True from eq_true (by omega), w64 (n := (i : Int) + 1) (by omega) (by omega), cutFrom, ends_erase]
    have h0 := ih (i + 1) o (by omega) (by omega)
    have h1 := ih (i + 1) (o ++ [(i : Int)]) (by omega) (by simp; omega)
    by_cases h : manyV n ((ends l).eraseIdx i) > manyV n (ends l)
    · simp only [h, if_true, show ((manyV n ((ends l).eraseIdx i) : Nat) : Int) > ((manyV n (ends l) : Nat) : Int) from by omega]
      simpa using h1
    · simp only [h, if_false, show ¬ ((manyV n ((ends l).eraseIdx i) : Nat) : Int) > ((manyV n (ends l) : Nat) : Int) from by omega]
      simpa using h0
theorem spec_l16Edges_ev (n : Nat) (l : List S84) (hw : Within n (ends l)) (hb : l.length ≤ 1000000000) (hn : n ≤ 1000000000) : Ev (fun k => spec_l16Edges.f k (n : Int) l) (cutL n (ends l)) := by
  unfold spec_l16Edges.f
  simp only [ev_bind (spec_l16Many_ev n l hw hb hn)]
  have := spec_l16Edges_loop n l hw hb hn l.length 0 [] (by omega) (by simp)
  simpa [cutL, ends] using this

theorem impl_isCut_ev (n : Nat) (l : List S84) (i : Nat) (hw : Within n (ends l)) (hb : l.length ≤ 1000000000) (hn : n ≤ 1000000000) : Ev (fun k => impl_isCut.f k (n : Int) l (i : Int)) (decide (manyV n ((ends l).eraseIdx i) > manyV n (ends l))) := by
  unfold impl_isCut.f
  have hd := impl_without_ev l [(i : Int)] hb (by simp)
  have e := dropFrom_one l 0 i
  rw [Nat.zero_add] at e
  rw [e] at hd
  have hm := impl_many_ev n (l.eraseIdx i) (by rw [ends_erase]; exact within_erase hw i) (by rw [List.length_eraseIdx]; split <;> omega) hn
  simp only [ev_bind hd, ev_bind hm, ev_bind (impl_many_ev n l hw hb hn), ev_some, ends_erase]
  exact decide_eq_decide.2 (by omega)

theorem impl_cutEdges_loop (n : Nat) (l : List S84) (hw : Within n (ends l)) (hb : l.length ≤ 1000000000) (hn : n ≤ 1000000000) : ∀ (d i : Nat) (o : List Int), i + d = l.length → o.length ≤ i → Ev (fun k => impl_cutEdges.l0 k (n : Int) l o (l.length : Int) (i : Int)) (o ++ cutFrom n (ends l) i d) := by
  intro d
  induction d with
  | zero =>
    intro i o hi ho
    refine ev_succ.1 ?_
    simp only [impl_cutEdges.l0, show ((i : Int) < (l.length : Int)) = False from eq_false (by omega), if_false, ev_some, cutFrom, List.append_nil]
  | succ d ih =>
    intro i o hi ho
    refine ev_succ.1 ?_
    simp only [impl_cutEdges.l0, show ((i : Int) < (l.length : Int)) = True from eq_true (by omega), if_true, ev_bind (impl_isCut_ev n l i hw hb hn), ev_ite, show (o.length < 17592186044416) = True from eq_true (by omega), w64 (n := (i : Int) + 1) (by omega) (by omega), cutFrom, decide_eq_true_eq]
    have h0 := ih (i + 1) o (by omega) (by omega)
    have h1 := ih (i + 1) (o ++ [(i : Int)]) (by omega) (by simp; omega)
    by_cases h : manyV n ((ends l).eraseIdx i) > manyV n (ends l)
    · simp only [h, if_true]
      simpa using h1
    · simp only [h, if_false]
      simpa using h0
theorem impl_cutEdges_ev (n : Nat) (l : List S84) (hw : Within n (ends l)) (hb : l.length ≤ 1000000000) (hn : n ≤ 1000000000) : Ev (fun k => impl_cutEdges.f k (n : Int) l) (cutL n (ends l)) := by
  have := impl_cutEdges_loop n l hw hb hn l.length 0 [] (by omega) (by simp)
  simpa [impl_cutEdges.f, cutL, ends] using this

end Go.Proofs.Ytnoklicihomfoaa.Pure
