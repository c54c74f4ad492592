/- What functions of the program answer, as plain functions: used by the laws of this claim. -/
import Derived.Test.YtfkjnpgpofcinaaB0
import Derived.Test.YtfkjnpgpofcinaaF42
import Derived.Test.YtfkjnpgpofcinaaB1
import Derived.Test.YtfkjnpgpofcinaaB2
import Derived.Test.YtfkjnpgpofcinaaB3
import Derived.Test.YtfkjnpgpofcinaaB20
import Derived.Test.YtfkjnpgpofcinaaB41
import Derived.Test.YtfkjnpgpofcinaaQForest
import Derived.Test.YtfkjnpgpofcinaaQTree
namespace Go.Proofs.Ytfkjnpgpofcinaa.Pure
open Go.RowKit Go.Proofs.Ytfkjnpgpofcinaa.P Go.Proofs.YtfkjnpgpofcinaaW.PrintWords Go.Proofs.Ytfkjnpgpofcinaa.Q
set_option linter.unusedVariables false
set_option linter.unusedSimpArgs false

theorem wantsV_length (ps : List Int) (a : Int) (l : List Int) : (if (goodP ps && (inB 0 ((ps.length : Int) - 1) a && (allB 0 11 l && chainB none l))) = true then ((allH ps a).filter (wantS ps l), true) else ([], false)).1.length ≤ 12 := by
  split
  · rename_i h
    simp only [Bool.and_eq_true] at h
    obtain ⟨F, hl⟩ := goodP_forest h.1
    have hi := inB_iff.1 h.2.1
    have := allH_length F (a := a) (by omega) (by omega)
    have := List.length_filter_le (wantS ps l) (allH ps a)
    simp only; omega
  · simp
theorem spec_DrawReachedBy_ok (l : List Int) (hl : bytesL l) : ∃ h f, Ev (fun k => spec_DrawReachedBy.f k l) (h, f) ∧ h.length ≤ 100 := by
  obtain ⟨p, f, w, e1, pl, wl⟩ := spec_DrawWantsOn_ok l hl
  have e2 := spec_WantsOn_ev p f w (by omega) (by omega)
  have hv := wantsV_length p f w
  generalize (if (goodP p && (inB 0 ((p.length : Int) - 1) f && (allB 0 11 w && chainB none w))) = true then ((allH p f).filter (wantS p w), true) else ([], false)) = v at e2 hv
  obtain ⟨h, ok⟩ := v
  simp only at hv
  have plain : h.length ≤ 100 := by omega
  cases ok
  · refine ⟨h, f, ?_, plain⟩
    unfold spec_DrawReachedBy.f; refine (ev_bind e1).2 ?_; rw [slices_xorshift_Next_eq]; refine ev_some_bind.2 ?_; refine (ev_bind e2).2 ?_
    simp only [Bool.false_eq_true, if_false]; exact Ev.now _
  · by_cases h1 : (h.length : Int) > 1
    · obtain ⟨b, a3, s3, e3, r0, r1⟩ := spec_l1Cur_one_ok l 0 0 3 hl (by omega) (by omega) (by omega)
      cases b
      · refine ⟨h, f, ?_, plain⟩
        unfold spec_DrawReachedBy.f; refine (ev_bind e1).2 ?_; rw [slices_xorshift_Next_eq]; refine ev_some_bind.2 ?_; refine (ev_bind e2).2 ?_
        simp only [if_true, if_pos h1, e3, Option.bind_some, Bool.false_eq_true, if_false]; exact Ev.now _
      · obtain ⟨v, a4, s4, e4, v0, v1, _, _⟩ := spec_l1Cur_pick_ok l a3 s3 (h.length : Int) hl (by omega) (by omega) (by omega)
        have hw : wrap64 (v + 1) = v + 1 := w64 (by omega) (by omega)
        have t0 : (h.take v.toNat).length < 8796093022208 := by simp only [List.length_take]; omega
        have t1 : (h.take v.toNat).length + (h.drop (v + 1).toNat).length < 8796093022208 := by simp only [List.length_take, List.length_drop]; omega
        refine ⟨h.take v.toNat ++ h.drop (v + 1).toNat, f, ?_, by simp only [List.length_append, List.length_take, List.length_drop]; omega⟩
        unfold spec_DrawReachedBy.f; refine (ev_bind e1).2 ?_; rw [slices_xorshift_Next_eq]; refine ev_some_bind.2 ?_; refine (ev_bind e2).2 ?_
        simp only [if_true, if_pos h1, e3, e4, Option.bind_some, show (0 ≤ v) = True from eq_true v0, show (v ≤ (h.length : Int)) = True from eq_true (by omega), List.nil_append, List.length_nil, Nat.zero_add, show ((h.take v.toNat).length < 8796093022208) = True from eq_true t0, hw, show (0 ≤ v + 1) = True from eq_true (by omega), show (v + 1 ≤ (h.length : Int)) = True from eq_true (by omega), show ((h.take v.toNat).length + (h.drop (v + 1).toNat).length < 8796093022208) = True from eq_true t1]
        exact Ev.now _
    · refine ⟨h, f, ?_, plain⟩
      unfold spec_DrawReachedBy.f; refine (ev_bind e1).2 ?_; rw [slices_xorshift_Next_eq]; refine ev_some_bind.2 ?_; refine (ev_bind e2).2 ?_
      simp only [if_true, if_neg h1]; exact Ev.now _

theorem spec_ReachedBy_loop1 (t : List S76) : ∀ (p : List S76) (o : List Int), (p ++ t).length ≤ 100000000 → o.length ≤ p.length + 1 → Ev (fun k => spec_ReachedBy.l1 k o (p ++ t) ((p ++ t).length : Int) (p.length : Int)) (specR o t, true) := by
  induction t with
  | nil =>
    intro p o hb ho
    refine ev_succ.1 ?_
    simp only [spec_ReachedBy.l1, c_end, Int.lt_irrefl, if_false, ev_some, specR]
  | cons x t ih =>
    intro p o hb ho
    have hpl : p.length ≤ 100000000 := by simp at hb; omega
    have hput := putV_length x.f1 o
    refine ev_succ.1 ?_
    simp only [spec_ReachedBy.l1, c_lt, c_nn, rdHop_at, c_next p x t (by omega), if_true, ev_bind (spec_l1Has_ev o x.f0 (by omega)), ev_bind (spec_l1Put_ev o x.f1 (by omega)), ev_ite, specR]
    have hn0 := ih (p ++ [x]) o (by rwa [← c_app]) (by simp; omega)
    have hn1 := ih (p ++ [x]) (putV o x.f1) (by rwa [← c_app]) (by simp; omega)
    rw [← c_app] at hn0 hn1
    cases hasB x.f0 o
    · simpa using hn0
    · simpa using hn1
theorem spec_ReachedBy_loop (l : List S76) (a : Int) (hl : l.length ≤ 100000000) (t : List S76) : ∀ p : List S76, p ++ t = l → Ev (fun k => spec_ReachedBy.l0 k l a l (l.length : Int) (p.length : Int)) (if t.all hopB = true then (if (decide (l.length ≤ 40) && inB 0 11 a) = true then (specR [a] l, true) else ([], false)) else ([], false)) := by
  induction t with
  | nil =>
    intro p e
    refine ev_succ.1 ?_
    subst e
    simp only [List.append_nil] at hl
    have ht : Ev (fun k => spec_ReachedBy.j1 k p a true) ([], false) := by
      refine ev_succ.1 ?_
      simp only [spec_ReachedBy.j1, if_true]
      exact Ev.now _
    have hf : Ev (fun k => spec_ReachedBy.j1 k p a false) (specR [a] p, true) := by
      refine ev_succ.1 ?_
      simp only [spec_ReachedBy.j1, Bool.false_eq_true, if_false]
      exact spec_ReachedBy_loop1 p [] [a] hl (by simp)
    simp only [spec_ReachedBy.l0, List.append_nil, Int.lt_irrefl, if_false, spec_l1In_eq, Option.bind_some, List.all_nil, if_true, ev_ite]
    by_cases h : p.length ≤ 40
    · have h' : ¬ ((p.length : Int) > 40) := by omega
      simp only [h', if_false, decide_eq_true h, Bool.true_and]
      cases inB 0 11 a
      · simpa using ht
      · simpa using hf
    · have h' : (p.length : Int) > 40 := by omega
      simp only [h', if_true, decide_eq_false h, Bool.false_and, Bool.false_eq_true, if_false]
      exact ht
  | cons x t ih =>
    intro p e
    have hb : (p ++ x :: t).length ≤ 100000000 := by rw [e]; exact hl
    have e1 : ((p.length : Int) < (l.length : Int)) = True := by rw [← e]; exact c_lt _ _ _
    have e2 : rd_T76 l (p.length : Int) = x := by rw [← e]; exact rdHop_at _ _ _
    refine ev_succ.1 ?_
    simp only [spec_ReachedBy.l0, e1, e2, c_nn, c_next p x t (by omega), if_true, spec_l1In_eq, Option.bind_some, ev_ite, ev_some, List.all_cons, hopB]
    have hn := ih (p ++ [x]) (by rw [← e]; simp)
    rcases Bool.eq_false_or_eq_true (inB 0 11 x.f0) with h0 | h0
    · rcases Bool.eq_false_or_eq_true (inB 0 11 x.f1) with h1 | h1
      · by_cases h : x.f0 = x.f1
        · simp [h0, h1, h]
        · simpa [h0, h1, h] using hn
      · simp [h0, h1]
    · simp [h0]
theorem spec_ReachedBy_ev (l : List S76) (a : Int) (hl : l.length ≤ 100000000) : Ev (fun k => spec_ReachedBy.f k l a) (if (decide (l.length ≤ 40) && (inB 0 11 a && l.all hopB)) = true then (specR [a] l, true) else ([], false)) := by
  have h := spec_ReachedBy_loop l a hl l [] rfl
  have e : (if l.all hopB = true then (if (decide (l.length ≤ 40) && inB 0 11 a) = true then (specR [a] l, true) else ([], false)) else ([], false)) = (if (decide (l.length ≤ 40) && (inB 0 11 a && l.all hopB)) = true then (specR [a] l, true) else (([] : List Int), false)) := by
    cases l.all hopB <;> cases inB 0 11 a <;> simp
  rw [e] at h
  exact h

end Go.Proofs.Ytfkjnpgpofcinaa.Pure
