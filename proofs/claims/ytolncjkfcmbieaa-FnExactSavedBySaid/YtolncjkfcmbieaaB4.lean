/- The plain statement behind the law FnExactSavedBy: for all arguments it answers true. -/
import Derived.Test.YtolncjkfcmbieaaB0
import Derived.Test.YtolncjkfcmbieaaF4
import Derived.Test.YtolncjkfcmbieaaB1
import Derived.Test.YtolncjkfcmbieaaB2
import Derived.Test.YtolncjkfcmbieaaB3
import Derived.Test.YtolncjkfcmbieaaQForest
import Derived.Test.YtolncjkfcmbieaaQTree
namespace Go.Proofs.Ytolncjkfcmbieaa.Pure
open Go.RowKit Go.Proofs.Ytolncjkfcmbieaa.P Go.Proofs.YtolncjkfcmbieaaW.PrintWords Go.Proofs.Ytolncjkfcmbieaa.Q
set_option linter.unusedVariables false
set_option linter.unusedSimpArgs false

-- needs spec_l14Hops
theorem impl_wanted_loop {ps : List Int} (F : Forest ps) (hb : ps.length ≤ 12) (l : List Int) (hl : l.length ≤ 1000000000) (t : List S162) : ∀ (p o : List S162), (∀ h ∈ t, (0 ≤ h.f0 ∧ h.f0 < (ps.length : Int)) ∧ 0 ≤ h.f1 ∧ h.f1 < (ps.length : Int)) → (p ++ t).length ≤ 500 → o.length ≤ p.length → Ev (fun k => impl_wanted.l0 k ps l o (p ++ t) ((p ++ t).length : Int) (p.length : Int)) (o ++ t.filter (wantS ps l)) := by
  induction t with
  | nil =>
    intro p o _ _ _
    refine ev_succ.1 ?_
    simp only [impl_wanted.l0, c_end, List.append_nil, Int.lt_irrefl, if_false, ev_some, List.filter_nil]
  | cons x t ih =>
    intro p o hr hp ho
    have hx := hr x (by simp)
    have hpl : p.length ≤ 500 := by simp at hp; omega
    have hsl : (sv ps x.f0 x.f1).length ≤ 12 := by rw [sv_length]; exact Nat.le_trans (nodes_length F x.f0 x.f1 hx.2.1 hx.2.2) hb
    have hp2 : ((p ++ [x]) ++ t).length ≤ 500 := by rwa [← c_app]
    have hn0 := ih (p ++ [x]) o (fun h hh => hr h (by simp [hh])) hp2 (by simp; omega)
    have hn1 := ih (p ++ [x]) (o ++ [x]) (fun h hh => hr h (by simp [hh])) hp2 (by simp; omega)
    rw [← c_app] at hn0 hn1
    refine ev_succ.1 ?_
    simp only [impl_wanted.l0, c_lt, c_nn, rdHop_at, if_true, ev_bind (impl_behind_ev F hb x.f0 x.f1 hx.2.1 hx.2.2), slices_ContainsFunc_int_int_eq (sv ps x.f0 x.f1) l (by omega) hl, Option.bind_some, ev_ite, show (o.length < 8796093022208) = True from eq_true (by omega), c_next p x t (by omega)]
    have ew : wantS ps l x = (sv ps x.f0 x.f1).any fun x => hasB x l := rfl
    rw [← ew]
    rcases Bool.eq_false_or_eq_true (wantS ps l x) with h | h
    · rw [if_pos h, List.filter_cons_of_pos h]
      simpa using hn1
    · rw [if_neg (by simp [h]), List.filter_cons_of_neg (by simp [h])]
      exact hn0
theorem impl_wanted_ev {ps : List Int} (F : Forest ps) (hb : ps.length ≤ 12) (a : Int) (h0 : 0 ≤ a) (h1 : a < (ps.length : Int)) (l : List Int) (hl : l.length ≤ 1000000000) : Ev (fun k => impl_wanted.f k ps a l) ((allH ps a).filter (wantS ps l)) := by
  unfold impl_wanted.f
  simp only [ev_bind (impl_spread_ev F hb a h0 h1)]
  have hal := allH_length F h0 h1
  exact impl_wanted_loop F hb l hl (allH ps a) [] [] (allH_in h0 h1) (by simp; omega) (by simp)

theorem impl_WantsOn_ev (ps : List Int) (a : Int) (l : List Int) (hb : ps.length ≤ 1000000000) (hl : l.length ≤ 1000000000) : Ev (fun k => impl_WantsOn.f k ps a l) (if (goodP ps && (inB 0 ((ps.length : Int) - 1) a && (allB 0 11 l && chainB none l))) = true then ((allH ps a).filter (wantS ps l), true) else ([], false)) := by
  unfold impl_WantsOn.f
  simp only [ev_bind (impl_goodTree_ev ps [a] hb (by simp)), ev_bind (impl_goodWants_ev l (by omega)), allB_cons, allB_nil, Bool.and_true, ev_ite, ev_some]
  cases hg : goodP ps
  · simp
  · obtain ⟨F, hn⟩ := goodP_forest hg
    cases h : inB 0 ((ps.length : Int) - 1) a
    · simp
    · have hi := inB_iff.1 h
      rcases Bool.eq_false_or_eq_true (allB 0 11 l && chainB none l) with h2 | h2
      · simp only [h2, Bool.and_self, if_true, ev_bind (impl_wanted_ev F hn a (by omega) (by omega) l hl), ev_some]
      · simp [h2]

theorem impl_SavedBy_ev (ps : List Int) (a : Int) (l : List Int) (hb : ps.length ≤ 1000000000) (hl : l.length ≤ 1000000000) : Ev (fun k => impl_SavedBy.f k ps a l) (if (goodP ps && (inB 0 ((ps.length : Int) - 1) a && (allB 0 11 l && chainB none l))) = true then (wrap64 (((allH ps a).length : Int) - (((allH ps a).filter (wantS ps l)).length : Int)), true) else (0, false)) := by
  unfold impl_SavedBy.f
  simp only [ev_bind (impl_WantsOn_ev ps a l hb hl)]
  rcases Bool.eq_false_or_eq_true (goodP ps && (inB 0 ((ps.length : Int) - 1) a && (allB 0 11 l && chainB none l))) with h | h
  · have h' := h
    simp only [Bool.and_eq_true] at h'
    obtain ⟨F, hn⟩ := goodP_forest h'.1
    have hi := inB_iff.1 h'.2.1
    simp only [h, if_true, ev_bind (impl_spread_ev F hn a (by omega) (by omega)), ev_some, allH]
  · simp only [h, Bool.false_eq_true, if_false, ev_some]

theorem FnExactSavedBy (l : List Int) (a : Int) (m : List Int) (hG : l.length ≤ maxLen ∧ ∀ y ∈ l, (Lit.int .i64 y).wf = true) (ha : (Lit.int .i64 a).wf = true) (hM : m.length ≤ maxLen ∧ ∀ y ∈ m, (Lit.int .i64 y).wf = true) : ∃ k, laws_FnExactSavedBy.f k l a m = some true := by
  refine Ev.rounds ?_
  unfold laws_FnExactSavedBy.f
  by_cases hbig : (l.length : Int) > 1048576
  · simp only [hbig, if_true]; exact Ev.now _
  by_cases hbig2 : (m.length : Int) > 1048576
  · simp only [hbig, hbig2, if_true, if_false]; exact Ev.now _
  simp only [hbig, hbig2, if_false, ev_bind (laws_toIntS_ev l (by omega)), ev_bind (laws_toIntS_ev m (by omega)), ev_bind (spec_SavedBy_ev l a m (by omega) (by omega)), ev_bind (impl_SavedBy_ev l a m (by omega) (by omega)), if_true, bne_self_eq_false]
  refine ev_succ.1 ?_
  simp only [laws_FnExactSavedBy.j0, Bool.false_eq_true, if_false, if_true, ev_bind (laws_toIntS_ev l (by omega)), ev_bind (laws_toIntS_ev m (by omega)), ev_bind (laws_eqIntS_ev l (by omega)), ev_bind (laws_eqIntS_ev m (by omega))]
  exact Ev.now _

end Go.Proofs.Ytolncjkfcmbieaa.Pure
