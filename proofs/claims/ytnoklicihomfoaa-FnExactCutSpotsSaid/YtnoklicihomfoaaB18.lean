/- What functions of the program answer, as plain functions: used by the laws of this claim. -/
import Derived.Test.YtnoklicihomfoaaB0
import Derived.Test.YtnoklicihomfoaaF18
import Derived.Test.YtnoklicihomfoaaB1
import Derived.Test.YtnoklicihomfoaaB2
import Derived.Test.YtnoklicihomfoaaB17
namespace Go.Proofs.Ytnoklicihomfoaa.Pure
open Go.RowKit Go.Proofs.Ytnoklicihomfoaa.P Go.Proofs.YtnoklicihomfoaaW.PrintWords Go.Proofs.Ytnoklicihomfoaa.Q
set_option linter.unusedVariables false
set_option linter.unusedSimpArgs false

theorem spec_l16Spot_loop (n : Int) (t : List S84) : ∀ (p o : List S84), (p ++ t).length ≤ 5864062014804 → o.length ≤ p.length → Ev (fun k => spec_l16Spot.l0 k n o (p ++ t) ((p ++ t).length : Int) (p.length : Int)) (o ++ t.filter (fun x => decide (x.f0 ≠ n) && decide (x.f1 ≠ n))) := by
  induction t with
  | nil =>
    intro p o _ _
    refine ev_succ.1 ?_
    simp only [spec_l16Spot.l0, c_end, Int.lt_irrefl, if_false, ev_some]
    simp
  | cons x t ih =>
    intro p o hb ho
    refine ev_succ.1 ?_
    have hl : (o.length < 5864062014805) = True := eq_true (by simp at hb; omega)
    simp only [spec_l16Spot.l0, c_lt, c_nn, rdE_at, etaE, c_next p x t (by omega), if_true, ev_ite, hl]
    have h1 := ih (p ++ [x]) o (by rwa [← c_app]) (by simp; omega)
    have h2 := ih (p ++ [x]) (o ++ [x]) (by rwa [← c_app]) (by simp; omega)
    rw [← c_app] at h1 h2
    by_cases h3 : x.f0 = n
    · simpa [h3] using h1
    · by_cases h4 : x.f1 = n
      · simpa [h3, h4] using h1
      · simpa [h3, h4] using h2
theorem spec_l16Spot_ev (l : List S84) (n : Int) (h : l.length ≤ 5864062014804) : Ev (fun k => spec_l16Spot.f k l n) (l.filter (fun x => decide (x.f0 ≠ n) && decide (x.f1 ≠ n))) := by
  simpa [spec_l16Spot.f] using spec_l16Spot_loop n l [] [] h (by simp)

theorem spec_CutSpots_loop (n : Nat) (l : List S84) (hw : Within n (ends l)) (hb : l.length ≤ 1000000000) (hn : n ≤ 1000000000) : ∀ (d i : Nat) (o : List Int), i + d = n → o.length ≤ i → Ev (fun k => spec_CutSpots.l0 k (n : Int) l ((manyV n (ends l) : Nat) : Int) o (i : Int)) (o ++ cutSpotsFrom n (ends l) i d, true) := by
  intro d
  induction d with
  | zero =>
    intro i o hi ho
    refine ev_succ.1 ?_
    simp only [spec_CutSpots.l0, show ((i : Int) < (n : Int)) = False from eq_false (by omega), if_false, ev_some, cutSpotsFrom, List.append_nil]
  | succ d ih =>
    intro i o hi ho
    refine ev_succ.1 ?_
    have hf := spec_l16Spot_ev l (i : Int) (by omega)
    have hfl : (l.filter (fun x => decide (x.f0 ≠ (i : Int)) && decide (x.f1 ≠ (i : Int)))).length ≤ 1000000000 := Nat.le_trans (List.length_filter_le _ _) hb
    have hm := spec_l16Many_ev n _ (by rw [ends_no]; exact within_no hw (i : Int)) hfl hn
    rw [ends_no] at hm
    simp only [spec_CutSpots.l0, show ((i : Int) < (n : Int)) = True from eq_true (by omega), if_true, ev_bind hf, ev_bind hm, ev_ite, show (o.length < 17592186044416) = True from eq_true (by omega), w64 (n := (i : Int) + 1) (by omega) (by omega), w64 (n := ((manyV n (ends l) : Nat) : Int) + 1) (by have := manyV_le n (ends l); omega) (by have := manyV_le n (ends l); omega), cutSpotsFrom]
    have h0 := ih (i + 1) o (by omega) (by omega)
    have h1 := ih (i + 1) (o ++ [(i : Int)]) (by omega) (by simp; omega)
    by_cases h : manyV n (endsNo (i : Int) (ends l)) ≥ manyV n (ends l) + 2
    · simp only [h, if_true, show ((manyV n (endsNo (i : Int) (ends l)) : Nat) : Int) > ((manyV n (ends l) : Nat) : Int) + 1 from by omega]
      simpa using h1
    · simp only [h, if_false, show ¬ ((manyV n (endsNo (i : Int) (ends l)) : Nat) : Int) > ((manyV n (ends l) : Nat) : Int) + 1 from by omega]
      simpa using h0
theorem spec_CutSpots_ev (n : Int) (l : List S84) (h : l.length ≤ 1000000000) : Ev (fun k => spec_CutSpots.f k n l) (if goodE n (l.map trip) then (cutSpotsL n.toNat (ends l), true) else ([], false)) := by
  unfold spec_CutSpots.f
  simp only [ev_bind (spec_GoodEdges_ev n l (by omega)), ev_ite, ev_some]
  cases hg : goodE n (l.map trip)
  · simp
  · obtain ⟨m, rfl, h1, h2, hw, _⟩ := goodE_within hg
    simp only [if_true, Int.toNat_natCast, ev_bind (spec_l16Many_ev m l hw h (by omega))]
    have := spec_CutSpots_loop m l hw h (by omega) m 0 [] (by omega) (by simp)
    simpa [cutSpotsL] using this

theorem impl_withoutSpot_loop (n : Int) (t : List S84) : ∀ (p o : List S84), (p ++ t).length ≤ 5864062014804 → o.length ≤ p.length → Ev (fun k => impl_withoutSpot.l0 k n o (p ++ t) ((p ++ t).length : Int) (p.length : Int)) (o ++ t.filter (fun x => decide (x.f0 ≠ n) && decide (x.f1 ≠ n))) := by
  induction t with
  | nil =>
    intro p o _ _
    refine ev_succ.1 ?_
    simp only [impl_withoutSpot.l0, c_end, Int.lt_irrefl, if_false, ev_some]
    simp
  | cons x t ih =>
    intro p o hb ho
    refine ev_succ.1 ?_
    have hl : (o.length < 5864062014805) = True := eq_true (by simp at hb; omega)
    simp only [impl_withoutSpot.l0, c_lt, c_nn, rdE_at, etaE, c_next p x t (by omega), if_true, ev_ite, hl]
    have h1 := ih (p ++ [x]) o (by rwa [← c_app]) (by simp; omega)
    have h2 := ih (p ++ [x]) (o ++ [x]) (by rwa [← c_app]) (by simp; omega)
    rw [← c_app] at h1 h2
    by_cases h3 : x.f0 = n
    · simpa [h3] using h1
    · by_cases h4 : x.f1 = n
      · simpa [h3, h4] using h1
      · simpa [h3, h4] using h2
theorem impl_withoutSpot_ev (l : List S84) (n : Int) (h : l.length ≤ 5864062014804) : Ev (fun k => impl_withoutSpot.f k l n) (l.filter (fun x => decide (x.f0 ≠ n) && decide (x.f1 ≠ n))) := by
  simpa [impl_withoutSpot.f] using impl_withoutSpot_loop n l [] [] h (by simp)

theorem impl_CutSpots_loop (n : Nat) (l : List S84) (hw : Within n (ends l)) (hb : l.length ≤ 1000000000) (hn : n ≤ 1000000000) : ∀ (d i : Nat) (o : List Int), i + d = n → o.length ≤ i → Ev (fun k => impl_CutSpots.l0 k (n : Int) l o (n : Int) (i : Int)) (o ++ cutSpotsFrom n (ends l) i d, true) := by
  intro d
  induction d with
  | zero =>
    intro i o hi ho
    refine ev_succ.1 ?_
    simp only [impl_CutSpots.l0, show ((i : Int) < (n : Int)) = False from eq_false (by omega), if_false, ev_some, cutSpotsFrom, List.append_nil]
  | succ d ih =>
    intro i o hi ho
    refine ev_succ.1 ?_
    have hf := impl_withoutSpot_ev l (i : Int) (by omega)
    have hfl : (l.filter (fun x => decide (x.f0 ≠ (i : Int)) && decide (x.f1 ≠ (i : Int)))).length ≤ 1000000000 := Nat.le_trans (List.length_filter_le _ _) hb
    have hm := impl_many_ev n _ (by rw [ends_no]; exact within_no hw (i : Int)) hfl hn
    rw [ends_no] at hm
    simp only [impl_CutSpots.l0, show ((i : Int) < (n : Int)) = True from eq_true (by omega), if_true, ev_bind hf, ev_bind hm, ev_bind (impl_many_ev n l hw hb hn), w64 (n := ((manyV n (ends l) : Nat) : Int) + 2) (by have := manyV_le n (ends l); omega) (by have := manyV_le n (ends l); omega), ev_ite, show (o.length < 17592186044416) = True from eq_true (by omega), w64 (n := (i : Int) + 1) (by omega) (by omega), cutSpotsFrom]
    have h0 := ih (i + 1) o (by omega) (by omega)
    have h1 := ih (i + 1) (o ++ [(i : Int)]) (by omega) (by simp; omega)
    by_cases h : manyV n (endsNo (i : Int) (ends l)) ≥ manyV n (ends l) + 2
    · simp only [h, if_true, show ((manyV n (endsNo (i : Int) (ends l)) : Nat) : Int) ≥ ((manyV n (ends l) : Nat) : Int) + 2 from by omega]
      simpa using h1
    · simp only [h, if_false, show ¬ ((manyV n (endsNo (i : Int) (ends l)) : Nat) : Int) ≥ ((manyV n (ends l) : Nat) : Int) + 2 from by omega]
      simpa using h0
theorem impl_CutSpots_ev (n : Int) (l : List S84) (h : l.length ≤ 1000000000) : Ev (fun k => impl_CutSpots.f k n l) (if goodE n (l.map trip) then (cutSpotsL n.toNat (ends l), true) else ([], false)) := by
  unfold impl_CutSpots.f
  simp only [ev_bind (impl_GoodEdges_ev n l (by omega)), ev_ite, ev_some]
  cases hg : goodE n (l.map trip)
  · simp
  · obtain ⟨m, rfl, h1, h2, hw, _⟩ := goodE_within hg
    simp only [if_true, Int.toNat_natCast]
    have := impl_CutSpots_loop m l hw h (by omega) m 0 [] (by omega) (by simp)
    simpa [cutSpotsL] using this

end Go.Proofs.Ytnoklicihomfoaa.Pure
