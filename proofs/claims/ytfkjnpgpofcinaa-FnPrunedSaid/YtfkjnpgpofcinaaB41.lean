/- What functions of the program answer, as plain functions: used by the laws of this claim. -/
import Derived.Test.YtfkjnpgpofcinaaB0
import Derived.Test.YtfkjnpgpofcinaaF41
import Derived.Test.YtfkjnpgpofcinaaB2
import Derived.Test.YtfkjnpgpofcinaaB3
import Derived.Test.YtfkjnpgpofcinaaB4
import Derived.Test.YtfkjnpgpofcinaaB20
import Derived.Test.YtfkjnpgpofcinaaB40
import Derived.Test.YtfkjnpgpofcinaaQForest
import Derived.Test.YtfkjnpgpofcinaaQTree
namespace Go.Proofs.Ytfkjnpgpofcinaa.Pure
open Go.RowKit Go.Proofs.Ytfkjnpgpofcinaa.P Go.Proofs.YtfkjnpgpofcinaaW.PrintWords Go.Proofs.Ytfkjnpgpofcinaa.Q
set_option linter.unusedVariables false
set_option linter.unusedSimpArgs false

theorem spec_DrawWantsOn_ok (l : List Int) (hl : bytesL l) : ∃ p f w, Ev (fun k => spec_DrawWantsOn.f k l) (p, f, w) ∧ p.length ≤ 13 ∧ w.length ≤ 100 := by
  obtain ⟨p, a1, s1, e1, pl, p0, p1⟩ := spec_l1Cur_parents_ok l hl 0 0 (by omega) (by omega)
  have hw : wrap64 ((p.length : Int) + 1) = (p.length : Int) + 1 := w64 (by omega) (by omega)
  obtain ⟨v, a2, s2, e2, _, _, q0, q1⟩ := spec_l1Cur_pick_ok l a1 s1 ((p.length : Int) + 1) hl p0 (by omega) (by omega)
  obtain ⟨v2, a3, s3, e3, _, _, r0, r1⟩ := spec_l1Cur_pick_ok l a2 s2 9 hl (by omega) (by omega) (by omega)
  obtain ⟨w, a4, s4, e4, wl, _, _⟩ := spec_l1Cur_wants_ok l hl a3 s3 (by omega) (by omega)
  refine ⟨p, wrap64 (v - (wrap64 (Int.tdiv v2 8))), w, ?_, pl, wl⟩
  unfold spec_DrawWantsOn.f
  rw [slices_xorshift_Next_eq]
  refine ev_some_bind.2 ?_
  refine (ev_bind e1).2 ?_
  simp only [hw, e2, e3, Option.bind_some, ev_bind e4]
  exact Ev.now _

theorem impl_SavedBy_ev (ps : List Int) (a : Int) (l : List Int) (hb : ps.length ≤ 1000000000) (hl : l.length ≤ 1000000000) : Ev (fun k => impl_SavedBy.f k ps a l) (if (goodP ps && (inB 0 ((ps.length : Int) - 1) a && (allB 0 11 l && chainB none l))) = true then (wrap64 (((allH ps a).length : Int) - (((allH ps a).filter (wantS ps l)).length : Int)), true) else (0, false)) := by
  unfold impl_SavedBy.f
  simp only [ev_bind (impl_WantsOn_ev ps a l hb hl)]
  rcases Bool.eq_false_or_eq_true (goodP ps && (inB 0 ((ps.length : Int) - 1) a && (allB 0 11 l && chainB none l))) with h | h
  · have h' := h
    simp only [Bool.and_eq_true] at h'
    obtain ⟨F, hn⟩ := goodP_forest h'.1
    have hi := inB_iff.1 h'.2.1
    simp only [h, if_true, ev_bind (impl_spread_ev F hn a (by omega) (by omega)), ev_some, allH]
  · simp only [h, Bool.false_eq_true, if_false, ev_some]

theorem spec_SavedBy_ev (ps : List Int) (a : Int) (l : List Int) (hb : ps.length ≤ 1000000000) (hl : l.length ≤ 1000000000) : Ev (fun k => spec_SavedBy.f k ps a l) (if (goodP ps && (inB 0 ((ps.length : Int) - 1) a && (allB 0 11 l && chainB none l))) = true then (wrap64 (((allH ps a).length : Int) - (((allH ps a).filter (wantS ps l)).length : Int)), true) else (0, false)) := by
  have ht : Ev (fun k => spec_SavedBy.j0 k ps a l true) (0, false) := by
    refine ev_succ.1 ?_
    simp only [spec_SavedBy.j0, if_true]
    exact Ev.now _
  unfold spec_SavedBy.f
  simp only [ev_bind (spec_l10Two_ev ps a a hb), ev_bind (spec_l14Wants_ev l (by omega)), Bool.and_self, ev_ite]
  cases hg : goodP ps
  · simpa using ht
  · obtain ⟨F, hn⟩ := goodP_forest hg
    cases h : inB 0 ((ps.length : Int) - 1) a
    · simpa using ht
    · have hi := inB_iff.1 h
      rcases Bool.eq_false_or_eq_true (allB 0 11 l && chainB none l) with h2 | h2
      · simp only [h2, Bool.and_self, if_true, Bool.not_true]
        refine ev_succ.1 ?_
        simp only [spec_SavedBy.j0, Bool.false_eq_true, if_false, ev_bind (spec_l10Spread_ev F hn a (by omega) (by omega)), ev_bind (spec_l14Hops_ev F hn a (by omega) (by omega) l hl), ev_some, allH]
      · simpa [h2] using ht

theorem laws_sameHops_loop (t : List S76) : ∀ p : List S76, (p ++ t).length ≤ 9223372036854775806 → Ev (fun k => laws_sameHops.l0 k (p ++ t) (p ++ t) ((p ++ t).length : Int) (p.length : Int)) true := by
  induction t with
  | nil =>
    intro p _
    refine ev_succ.1 ?_
    simp only [laws_sameHops.l0, c_end, Int.lt_irrefl, if_false, ev_some]
  | cons x t ih =>
    intro p hb
    refine ev_succ.1 ?_
    simp only [laws_sameHops.l0, c_lt, c_nn, beq_self_eq_true, Bool.not_true, Bool.or_self, Bool.false_eq_true, if_false, c_next _ _ _ hb, if_true]
    rw [c_app p x t]
    exact ih (p ++ [x]) (by rwa [← c_app])
theorem laws_sameHops_ev (l : List S76) (h : l.length ≤ 9223372036854775806) : Ev (fun k => laws_sameHops.f k l l) true := by
  unfold laws_sameHops.f
  simp only [if_true]
  exact laws_sameHops_loop l [] h

-- needs QTree
/-- A hop between two unlike spots. -/
def hopB (h : S76) : Bool := inB 0 11 h.f0 && (inB 0 11 h.f1 && decide (h.f0 ≠ h.f1))
/-- What hops lead to, each put behind what is there. -/
def implR : List Int → List S76 → List Int
  | o, [] => o
  | o, h :: t => if hasB h.f0 o = true then (if hasB h.f1 o = true then implR o t else implR (o ++ [h.f1]) t) else implR o t
/-- .. each put to its place. -/
def specR : List Int → List S76 → List Int
  | o, [] => o
  | o, h :: t => if hasB h.f0 o = true then specR (putV o h.f1) t else specR o t
theorem specR_length : ∀ (l : List S76) (o : List Int), (specR o l).length ≤ o.length + l.length
  | [], o => by simp [specR]
  | h :: t, o => by
    have h1 := specR_length t o
    have h2 := specR_length t (putV o h.f1)
    have h3 := putV_length h.f1 o
    unfold specR
    simp only [List.length_cons]
    split <;> omega
theorem hasB_perm {o s : List Int} (h : o.Perm s) (x : Int) : hasB x o = hasB x s := by
  rw [Bool.eq_iff_iff, hasB_iff, hasB_iff]
  exact h.mem_iff
theorem reach_same : ∀ (l : List S76) (o s : List Int), o.Perm s → s.Pairwise (fun a b => a < b) → ((implR o l).mergeSort fun x y => decide (x ≤ y)) = specR s l
  | [], o, s, h, hs => sort_of_perm h hs
  | x :: t, o, s, h, hs => by
    unfold implR specR
    rw [hasB_perm h x.f0, hasB_perm h x.f1]
    cases h0 : hasB x.f0 s
    · simp only [Bool.false_eq_true, if_false]
      exact reach_same t o s h hs
    · simp only [if_true]
      cases h1 : hasB x.f1 s
      · simp only [Bool.false_eq_true, if_false]
        have hn : x.f1 ∉ s := fun hm => by rw [hasB_iff.2 hm] at h1; cases h1
        exact reach_same t _ _ ((h.append_right _).trans (putV_perm _ _ hn).symm) (putV_sorted _ _ hs)
      · simp only [if_true]
        rw [putV_same _ _ hs (hasB_iff.1 h1)]
        exact reach_same t o s h hs
theorem implR_length : ∀ (l : List S76) (o : List Int), (implR o l).length ≤ o.length + l.length
  | [], o => by simp [implR]
  | h :: t, o => by
    have h1 := implR_length t o
    have h2 := implR_length t (o ++ [h.f1])
    simp only [List.length_append, List.length_cons, List.length_nil] at h2
    unfold implR
    simp only [List.length_cons]
    split
    · split <;> omega
    · omega
theorem impl_reached_loop (t : List S76) : ∀ (p : List S76) (o : List Int), (p ++ t).length ≤ 100000000 → o.length ≤ p.length + 1 → Ev (fun k => impl_reached.l0 k o (p ++ t) ((p ++ t).length : Int) (p.length : Int)) ((implR o t).mergeSort fun x y => decide (x ≤ y)) := by
  induction t with
  | nil =>
    intro p o hb ho
    refine ev_succ.1 ?_
    simp only [List.append_nil] at hb
    simp only [impl_reached.l0, c_end, Int.lt_irrefl, if_false, slices_Sort_int_int_eq o (by omega), Option.bind_some, ev_some, implR]
  | cons x t ih =>
    intro p o hb ho
    have hpl : p.length ≤ 100000000 := by simp at hb; omega
    refine ev_succ.1 ?_
    simp only [impl_reached.l0, c_lt, c_nn, rdHop_at, c_next p x t (by omega), if_true, ev_bind (slices_Contains_int_int_ev o x.f0 (by omega)), ev_bind (slices_Contains_int_int_ev o x.f1 (by omega)), show (o.length < 17592186044416) = True from eq_true (by omega), ev_ite, implR]
    have hn0 := ih (p ++ [x]) o (by rwa [← c_app]) (by simp; omega)
    have hn1 := ih (p ++ [x]) (o ++ [x.f1]) (by rwa [← c_app]) (by simp; omega)
    rw [← c_app] at hn0 hn1
    cases hasB x.f0 o
    · simpa using hn0
    · cases hasB x.f1 o
      · simpa using hn1
      · simpa using hn0
theorem impl_reached_ev (l : List S76) (a : Int) (h : l.length ≤ 100000000) : Ev (fun k => impl_reached.f k l a) (specR [a] l) := by
  have := impl_reached_loop l [] [a] h (by simp)
  rw [reach_same l [a] [a] (List.Perm.refl _) (by simp)] at this
  exact this

theorem impl_ReachedBy_loop (l : List S76) (a : Int) (hl : l.length ≤ 100000000) (t : List S76) : ∀ p : List S76, p ++ t = l → Ev (fun k => impl_ReachedBy.l0 k l a l (l.length : Int) (p.length : Int)) (if t.all hopB = true then (specR [a] l, true) else ([], false)) := by
  induction t with
  | nil =>
    intro p e
    refine ev_succ.1 ?_
    subst e
    simp only [List.append_nil] at hl
    simp only [impl_ReachedBy.l0, c_end, List.append_nil, Int.lt_irrefl, if_false, ev_bind (impl_reached_ev p a hl), ev_some, List.all_nil, if_true]
  | cons x t ih =>
    intro p e
    have hb : (p ++ x :: t).length ≤ 100000000 := by rw [e]; exact hl
    have e1 : ((p.length : Int) < (l.length : Int)) = True := by rw [← e]; exact c_lt _ _ _
    have e2 : rd_T76 l (p.length : Int) = x := by rw [← e]; exact rdHop_at _ _ _
    refine ev_succ.1 ?_
    simp only [impl_ReachedBy.l0, e1, e2, c_nn, c_next p x t (by omega), if_true, impl_isSpot_eq, Option.bind_some, ev_ite, ev_some, List.all_cons, hopB]
    have hn := ih (p ++ [x]) (by rw [← e]; simp)
    rcases Bool.eq_false_or_eq_true (inB 0 11 x.f0) with h0 | h0
    · rcases Bool.eq_false_or_eq_true (inB 0 11 x.f1) with h1 | h1
      · by_cases h : x.f0 = x.f1
        · simp [h0, h1, h]
        · simpa [h0, h1, h] using hn
      · simp [h0, h1]
    · simp [h0]
theorem impl_ReachedBy_ev (l : List S76) (a : Int) (hl : l.length ≤ 100000000) : Ev (fun k => impl_ReachedBy.f k l a) (if (decide (l.length ≤ 40) && (inB 0 11 a && l.all hopB)) = true then (specR [a] l, true) else ([], false)) := by
  unfold impl_ReachedBy.f
  have ht : Ev (fun k => impl_ReachedBy.j0 k l a true) ([], false) := by
    refine ev_succ.1 ?_
    simp only [impl_ReachedBy.j0, if_true]
    exact Ev.now _
  have hf : Ev (fun k => impl_ReachedBy.j0 k l a false) (if l.all hopB = true then (specR [a] l, true) else ([], false)) := by
    refine ev_succ.1 ?_
    simp only [impl_ReachedBy.j0, Bool.false_eq_true, if_false]
    exact impl_ReachedBy_loop l a hl l [] rfl
  simp only [impl_isSpot_eq, Option.bind_some, ev_ite]
  by_cases h : l.length ≤ 40
  · have h' : ¬ ((l.length : Int) > 40) := by omega
    simp only [h', if_false, decide_eq_true h, Bool.true_and]
    cases inB 0 11 a
    · simpa using ht
    · simpa using hf
  · have h' : (l.length : Int) > 40 := by omega
    simp only [h', if_true, decide_eq_false h, Bool.false_and, Bool.false_eq_true, if_false]
    exact ht

end Go.Proofs.Ytfkjnpgpofcinaa.Pure
