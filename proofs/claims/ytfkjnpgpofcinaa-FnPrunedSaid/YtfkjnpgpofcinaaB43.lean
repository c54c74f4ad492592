/- The plain statement behind the law FnPruned: for all arguments it answers true. -/
import Derived.Test.YtfkjnpgpofcinaaB0
import Derived.Test.YtfkjnpgpofcinaaF43
import Derived.Test.YtfkjnpgpofcinaaB2
import Derived.Test.YtfkjnpgpofcinaaB3
import Derived.Test.YtfkjnpgpofcinaaB4
import Derived.Test.YtfkjnpgpofcinaaB20
import Derived.Test.YtfkjnpgpofcinaaB40
import Derived.Test.YtfkjnpgpofcinaaB41
import Derived.Test.YtfkjnpgpofcinaaB42
import Derived.Test.YtfkjnpgpofcinaaQForest
import Derived.Test.YtfkjnpgpofcinaaQTree
namespace Go.Proofs.Ytfkjnpgpofcinaa.Pure
open Go.RowKit Go.Proofs.Ytfkjnpgpofcinaa.P Go.Proofs.YtfkjnpgpofcinaaW.PrintWords Go.Proofs.Ytfkjnpgpofcinaa.Q
set_option linter.unusedVariables false
set_option linter.unusedSimpArgs false

theorem reachP_spec : ∀ (l : List S76) (o : List Int), specR o l = reachP o (l.map hopP)
  | [], o => rfl
  | h :: t, o => by
    simp only [specR, List.map_cons, reachP, hopP]
    rw [reachP_spec t, reachP_spec t]
/-- The same of a hop told by its ends. -/
def wantW (ps l : List Int) (p : Int × Int) : Bool := (sv ps p.1 p.2).any fun x => hasB x l
theorem want_up {ps : List Int} (F : Forest ps) (l : List Int) : ∀ s k j, 0 ≤ s → s < (ps.length : Int) → k ∈ joinL ps s → j ∈ nexts ps s k → wantW ps l (k, j) = true → wantW ps l (s, k) = true := by
  intro s k j _ _ hk hj h
  obtain ⟨k0, k1, _⟩ := joinL_mem.1 hk
  simp only [wantW, List.any_eq_true] at h ⊢
  obtain ⟨x, hx, hh⟩ := h
  refine ⟨x, ?_, hh⟩
  rw [(sv_perm ps k j).mem_iff] at hx
  rw [(sv_perm ps s k).mem_iff, nodes_eq F k0 k1, List.mem_cons]
  exact .inr (List.mem_flatMap.2 ⟨j, hj, hx⟩)
theorem wanted_pairs (ps : List Int) (a : Int) (l : List Int) : ((allH ps a).filter (wantS ps l)).map hopP = (hopsF ps ps.length [(a, -1)]).filter (wantW ps l) := by
  unfold allH
  rw [List.filter_map, List.map_map]
  have : (hopP ∘ hopS) = id := rfl
  rw [this, List.map_id]
  rfl
theorem all_pairs (ps : List Int) (a : Int) : (allH ps a).map hopP = (hopsF ps ps.length [(a, -1)]).filter (fun _ => true) := by
  unfold allH
  rw [List.map_map, show (hopP ∘ hopS) = id from rfl, List.map_id, List.filter_eq_self.2 (by simp)]
theorem hops_good {ps : List Int} (F : Forest ps) (hn : ps.length ≤ 12) {a : Int} (h0 : 0 ≤ a) (h1 : a < (ps.length : Int)) : ∀ h ∈ allH ps a, hopB h = true := by
  intro h hh
  obtain ⟨x, hx, rfl⟩ := List.mem_map.1 hh
  have hin := hopsF_in ps.length [(a, -1)] (by intro y hy; rw [List.mem_singleton.1 hy]; exact ⟨h0, h1⟩) x hx
  have hj := hopsF_join ps.length [(a, -1)] x hx
  have hne := join_ne F hin.1.1 hin.1.2 hj
  simp only [hopB, hopS, Bool.and_eq_true, decide_eq_true_eq]
  exact ⟨inB_iff.2 (by omega), inB_iff.2 (by omega), decide_eq_true fun e => hne e.symm⟩
theorem FnPruned_some (m w : List Int) (p x5 : List Int) (t5 : Bool) (L : List S76) (n i : Int) (r : Bool) (hw : w.length ≤ 1000000) (t : List Int) : ∀ (q : List Int) (b : Bool), (q ++ t).length ≤ 1000000 → (b || t.any fun x => hasB x w) = true → Ev (fun k => laws_FnPruned.l1 k m x5 w L n (wrap64 (i + 1))) r → Ev (fun k => laws_FnPruned.l2 k m x5 w true b L n i (q ++ t) ((q ++ t).length : Int) (q.length : Int)) r := by
  induction t with
  | nil =>
    intro q b _ hb h
    simp only [List.any_nil, Bool.or_false] at hb
    subst hb
    refine ev_succ.1 ?_
    simp only [laws_FnPruned.l2, c_end, Int.lt_irrefl, if_false, if_true]
    exact h
  | cons x t ih =>
    intro q b hq hb h
    refine ev_succ.1 ?_
    have hq2 : ((q ++ [x]) ++ t).length ≤ 1000000 := by rwa [← c_app]
    simp only [laws_FnPruned.l2, c_lt, c_nn, c_rd, c_next q x t (by omega), if_true, ev_ite, ev_bind (laws_has_ev w x (by omega))]
    rcases Bool.eq_false_or_eq_true b with hb2 | hb2
    · subst hb2
      rw [if_pos rfl]
      have := ih (q ++ [x]) true hq2 (by simp) h
      rwa [← c_app] at this
    · subst hb2
      rw [if_neg (by simp)]
      have := ih (q ++ [x]) (hasB x w) hq2 (by simpa using hb) h
      rwa [← c_app] at this
theorem FnPruned_hops (m w : List Int) (ps : List Int) (hg : goodP ps = true) (hw : w.length ≤ 1000000) (t : List S76) : ∀ q : List S76, (q ++ t).length ≤ 1000 → (∀ h ∈ t, (0 ≤ h.f0 ∧ h.f0 < (ps.length : Int)) ∧ h.f1 ∈ joinL ps h.f0 ∧ wantS ps w h = true) → Ev (fun k => laws_FnPruned.j5 k m) true → Ev (fun k => laws_FnPruned.l1 k m ps w (q ++ t) ((q ++ t).length : Int) (q.length : Int)) true := by
  obtain ⟨F, hn⟩ := goodP_forest hg
  induction t with
  | nil =>
    intro q _ _ h
    refine ev_succ.1 ?_
    simp only [laws_FnPruned.l1, c_end, List.append_nil, Int.lt_irrefl, if_false]
    exact h
  | cons x t ih =>
    intro q hq hx h
    obtain ⟨⟨x0, x1⟩, x2, x3⟩ := hx x (by simp)
    have hj := joinL_mem.1 x2
    have hb := impl_BehindOf_ev ps x.f0 x.f1 (by omega)
    have hi : inB 0 ((ps.length : Int) - 1) x.f0 = true := inB_iff.2 (by omega)
    have hsl : (sv ps x.f0 x.f1).length ≤ 12 := by rw [sv_length]; exact Nat.le_trans (nodes_length F x.f0 x.f1 hj.1 hj.2.1) hn
    rw [if_pos (by simp [hg, hi, hasB_iff.2 x2])] at hb
    refine ev_succ.1 ?_
    simp only [laws_FnPruned.l1, c_lt, c_nn, rdHop_at, if_true, ev_bind hb]
    refine FnPruned_some m w ps ps true _ _ _ _ hw (sv ps x.f0 x.f1) [] false (by simp; omega) (by simpa [wantS] using x3) ?_
    have hq2 : ((q ++ [x]) ++ t).length ≤ 1000 := by rwa [← c_app]
    have := ih (q ++ [x]) hq2 (fun h hh => hx h (by simp [hh])) h
    rw [← c_app] at this
    rw [c_next q x t (by omega)]
    exact this
theorem FnPruned_has (m x5 : List Int) (L : List S76) (r a : List Int) (w : List Int) (hr : r.length ≤ 1000000) (ha : a.length ≤ 1000000) (t : List Int) : ∀ q : List Int, q ++ t = w → w.length ≤ 1000000 → (∀ k ∈ t, hasB k a = hasB k r) → Ev (fun k => laws_FnPruned.l1 k m x5 w L (L.length : Int) 0) true → Ev (fun k => laws_FnPruned.l0 k m x5 w L r a w (w.length : Int) (q.length : Int)) true := by
  induction t with
  | nil =>
    intro q e _ _ h
    refine ev_succ.1 ?_
    have e1 : ((q.length : Int) < (w.length : Int)) = False := by rw [← e]; exact c_end q
    simp only [laws_FnPruned.l0, e1, if_false]
    exact h
  | cons x t ih =>
    intro q e hw hk h
    have e1 : ((q.length : Int) < (w.length : Int)) = True := by rw [← e]; exact c_lt _ _ _
    have e2 : rd w (q.length : Int) = x := by rw [← e]; exact c_rd _ _ _
    have hb : (q ++ x :: t).length ≤ 1000000 := by rw [e]; exact hw
    refine ev_succ.1 ?_
    simp only [laws_FnPruned.l0, e1, e2, c_nn, if_true, ev_bind (laws_has_ev a x (by omega)), ev_bind (laws_has_ev r x (by omega)), hk x (by simp), bne_self_eq_false, Bool.false_eq_true, if_false, c_next q x t (by omega)]
    exact ih (q ++ [x]) (by rw [← e]; simp) hw (fun k hk2 => hk k (by simp [hk2])) h
theorem FnPruned_ends (m : List Int) (hm : bytesL m) : Ev (fun k => laws_FnPruned.j5 k m) true := by
  obtain ⟨h, f, e, hl⟩ := spec_DrawReachedBy_ok m hm
  have hi := impl_ReachedBy_ev h f (by omega)
  have hs := spec_ReachedBy_ev h f (by omega)
  have hv : (if (decide (h.length ≤ 40) && (inB 0 11 f && h.all hopB)) = true then (specR [f] h, true) else ([], false)).1.length ≤ 1000 := by
    split
    · have := specR_length h [f]; simp only [List.length_cons, List.length_nil] at this; simp only; omega
    · simp
  generalize (if (decide (h.length ≤ 40) && (inB 0 11 f && h.all hopB)) = true then (specR [f] h, true) else (([] : List Int), false)) = v at hi hs hv
  refine ev_succ.1 ?_
  simp only [laws_FnPruned.j5, ev_bind e, ev_bind hi, ev_bind hs, beq_self_eq_true, if_true, ev_bind (laws_sameInts_ev v.1 (by omega))]
  exact Ev.now _
theorem allH_join (ps : List Int) (a : Int) : ∀ h ∈ allH ps a, h.f1 ∈ joinL ps h.f0 := by
  intro h hh
  obtain ⟨x, hx, rfl⟩ := List.mem_map.1 hh
  exact hopsF_join ps.length [(a, -1)] x hx
theorem allH_def (ps : List Int) (a : Int) : (hopsF ps ps.length [(a, -1)]).map hopS = allH ps a := rfl
attribute [local irreducible] allH wantS specR hopsF sv nodes reachP
theorem FnPruned (l m : List Int) (hG : l.length ≤ maxLen ∧ ∀ y ∈ l, (Lit.int .u8 y).wf = true) (hM : m.length ≤ maxLen ∧ ∀ y ∈ m, (Lit.int .u8 y).wf = true) : ∃ k, laws_FnPruned.f k l m = some true := by
  refine Ev.rounds ?_
  have hl := bytesL_wf hG.2
  have hm := bytesL_wf hM.2
  have hend := FnPruned_ends m hm
  unfold laws_FnPruned.f
  by_cases hbig : wrap64 ((l.length : Int) + (m.length : Int)) > 1048576
  · simp only [hbig, if_true]; exact Ev.now _
  obtain ⟨p, f, w, e1, pl, wl⟩ := spec_DrawWantsOn_ok l hl
  have hi := impl_WantsOn_ev p f w (by omega) (by omega)
  have hs := spec_WantsOn_ev p f w (by omega) (by omega)
  have hi2 := impl_SavedBy_ev p f w (by omega) (by omega)
  have hs2 := spec_SavedBy_ev p f w (by omega) (by omega)
  have hv := wantsV_length p f w
  simp only [hbig, if_false, ev_bind e1, ev_bind hi, ev_bind hs, ev_bind hi2, ev_bind hs2, bne_self_eq_false, Bool.false_eq_true, ev_bind (laws_sameHops_ev _ (Nat.le_trans hv (by omega))), if_true]
  refine ev_succ.1 ?_
  simp only [laws_FnPruned.j0, Bool.false_eq_true, if_false]
  rcases Bool.eq_false_or_eq_true (goodP p && (inB 0 ((p.length : Int) - 1) f && (allB 0 11 w && chainB none w))) with hc | hc
  · have hc' := hc
    simp only [Bool.and_eq_true] at hc'
    obtain ⟨F, hn⟩ := goodP_forest hc'.1
    have hf := inB_iff.1 hc'.2.1
    have h0 : 0 ≤ f := hf.1
    have h1 : f < (p.length : Int) := by omega
    have hal := allH_length F h0 h1
    have hfl := List.length_filter_le (wantS p w) (allH p f)
    have hgood := hops_good F hn h0 h1
    have hf12 : inB 0 11 f = true := inB_iff.2 (by omega)
    have rW := impl_ReachedBy_ev ((allH p f).filter (wantS p w)) f (by omega)
    have rA := impl_ReachedBy_ev (allH p f) f (by omega)
    rw [if_pos (by simp only [Bool.and_eq_true, decide_eq_true_eq, hf12, true_and]; exact ⟨by omega, List.all_eq_true.2 fun h hh => hgood h (List.mem_filter.1 hh).1⟩)] at rW
    rw [if_pos (by simp only [Bool.and_eq_true, decide_eq_true_eq, hf12, true_and]; exact ⟨by omega, List.all_eq_true.2 hgood⟩)] at rA
    have pW := reach_all F (wantW p w) (want_up F w) h0 h1
    have pA := reach_all F (fun _ => true) (fun _ _ _ _ _ _ _ _ => rfl) h0 h1
    rw [← wanted_pairs, ← reachP_spec] at pW
    rw [← all_pairs, ← reachP_spec] at pA
    have lW := pW.length_eq
    have lA := pA.length_eq
    simp only [List.length_cons, List.length_map] at lW lA
    have hsp := impl_SpreadOn_ok p f F hc'.1 hn h0 h1
    rw [allH_def] at hsp
    simp only [hc, if_true, ev_bind hsp, ev_bind rW, ev_bind rA]
    have hw1 : wrap64 ((((allH p f).filter (wantS p w)).length : Int) + 1) = ((specR [f] ((allH p f).filter (wantS p w))).length : Int) := by rw [w64 (by omega) (by omega), lW]; omega
    simp only [hw1, bne_self_eq_false]
    clear hw1
    have hR1 : (specR [f] ((allH p f).filter (wantS p w))).length ≤ 1000000 := by omega
    have hR2 : (specR [f] (allH p f)).length ≤ 1000000 := by omega
    have hwl : w.length ≤ 1000000 := by omega
    generalize specR [f] ((allH p f).filter (wantS p w)) = R1 at pW hR1 ⊢
    generalize specR [f] (allH p f) = R2 at pA hR2 ⊢
    clear rW rA hi hs hi2 hs2 lW lA
    refine ev_succ.1 ?_
    simp only [laws_FnPruned.j1, Bool.false_eq_true, if_false]
    refine FnPruned_has m p ((allH p f).filter (wantS p w)) R1 R2 w hR1 hR2 w [] rfl hwl (fun k hk => ?_) ?_
    · rw [Bool.eq_iff_iff, hasB_iff, hasB_iff, pA.mem_iff, pW.mem_iff, List.mem_cons, List.mem_cons]
      constructor
      · rintro (h | h)
        · exact .inl h
        · obtain ⟨y, hy, rfl⟩ := List.mem_map.1 h
          obtain ⟨x, hx, rfl⟩ := List.mem_map.1 hy
          have hin := allH_in h0 h1 x hx
          refine .inr (List.mem_map.2 ⟨hopP x, List.mem_map.2 ⟨x, List.mem_filter.2 ⟨hx, ?_⟩, rfl⟩, rfl⟩)
          simp only [wantS, List.any_eq_true]
          refine ⟨x.f1, ?_, hasB_iff.2 hk⟩
          rw [(sv_perm p x.f0 x.f1).mem_iff, nodes_eq F hin.2.1 hin.2.2]
          simp
      · rintro (h | h)
        · exact .inl h
        · obtain ⟨y, hy, rfl⟩ := List.mem_map.1 h
          obtain ⟨x, hx, rfl⟩ := List.mem_map.1 hy
          exact .inr (List.mem_map.2 ⟨hopP x, List.mem_map.2 ⟨x, (List.mem_filter.1 hx).1, rfl⟩, rfl⟩)
    · refine FnPruned_hops m w p hc'.1 hwl ((allH p f).filter (wantS p w)) [] (by simp only [List.nil_append]; omega) (fun h hh => ?_) hend
      obtain ⟨hh, hwant⟩ := List.mem_filter.1 hh
      refine ⟨(allH_in h0 h1 h hh).1, ?_, hwant⟩
      exact allH_join p f h hh
  · simp only [hc, Bool.false_eq_true, if_false]
    exact hend

end Go.Proofs.Ytfkjnpgpofcinaa.Pure
