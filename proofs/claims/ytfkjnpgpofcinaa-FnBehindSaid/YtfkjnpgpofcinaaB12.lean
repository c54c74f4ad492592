/- The plain statement behind the law FnBehind: for all arguments it answers true. -/
import Derived.Test.YtfkjnpgpofcinaaB0
import Derived.Test.YtfkjnpgpofcinaaF12
import Derived.Test.YtfkjnpgpofcinaaB2
import Derived.Test.YtfkjnpgpofcinaaB7
import Derived.Test.YtfkjnpgpofcinaaB9
import Derived.Test.YtfkjnpgpofcinaaB10
import Derived.Test.YtfkjnpgpofcinaaB11
import Derived.Test.YtfkjnpgpofcinaaB26
import Derived.Test.YtfkjnpgpofcinaaQForest
import Derived.Test.YtfkjnpgpofcinaaQTree
namespace Go.Proofs.Ytfkjnpgpofcinaa.Pure
open Go.RowKit Go.Proofs.Ytfkjnpgpofcinaa.P Go.Proofs.YtfkjnpgpofcinaaW.PrintWords Go.Proofs.Ytfkjnpgpofcinaa.Q
set_option linter.unusedVariables false
set_option linter.unusedSimpArgs false

theorem chainB_iff_pairwise : ∀ (l : List Int), chainB none l = true ↔ l.Pairwise (fun a b => a < b)
  | [] => by simp [chainB]
  | [x] => by simp [chainB]
  | x :: y :: t => by
    have ih := chainB_iff_pairwise (y :: t)
    simp only [chainB_none] at ih ⊢
    rw [chainB_some, Bool.and_eq_true, decide_eq_true_eq, ih]
    constructor
    · rintro ⟨h1, h2⟩
      refine List.pairwise_cons.2 ⟨fun z hz => ?_, h2⟩
      rcases List.mem_cons.1 hz with rfl | hz
      · exact h1
      · have := (List.pairwise_cons.1 h2).1 z hz; omega
    · intro h
      obtain ⟨h1, h2⟩ := List.pairwise_cons.1 h
      exact ⟨h1 y (by simp), h2⟩
theorem FnBehind_last (k : Int) (w : List Int) (hw : w.length ≤ 1000) (hg : ((allB 0 11 w && chainB none w) && inB 0 11 k) = true) : Ev (fun q => laws_FnBehind.j4 q k (putV w k) true (w.filter fun x => decide (x ≠ k)) false) true := by
  simp only [Bool.and_eq_true] at hg
  obtain ⟨⟨h1, h2⟩, h3⟩ := hg
  have hl := putV_length k w
  have g1 : allB 0 11 (putV w k) = true := allB_iff.2 fun x hx => by
    rcases (putV_mem _ _ _).1 hx with rfl | hx
    · have := inB_iff.1 h3; omega
    · exact allB_iff.1 h1 x hx
  have g2 : chainB none (putV w k) = true := (chainB_iff_pairwise _).2 (putV_sorted _ _ ((chainB_iff_pairwise _).1 h2))
  have hi := impl_LeaveSpot_ev (putV w k) k (by omega)
  rw [if_pos (by rw [g1, g2, h3]; rfl), putV_drop] at hi
  have hfl := List.length_filter_le (fun x => decide (x ≠ k)) w
  refine ev_succ.1 ?_
  simp only [laws_FnBehind.j4, Bool.false_eq_true, if_false, if_true, ev_bind hi, ev_bind (laws_sameInts_ev (w.filter fun x => decide (x ≠ k)) (by omega)), ev_bind (laws_has_ev (putV w k) k (by omega)), hasB_iff.2 ((putV_mem k k w).2 (.inl rfl))]
  exact Ev.now _
theorem FnBehind_ends (m : List Int) (hm : bytesL m) : Ev (fun q => laws_FnBehind.j3 q m) true := by
  obtain ⟨p, a, e1, pl⟩ := spec_DrawBranchesAt_ok m hm
  obtain ⟨w, k, e2, wl⟩ := spec_DrawJoinSpot_ok m hm
  have b1 := impl_BranchesAt_ev p a (by omega)
  have b2 := spec_BranchesAt_ev p a (by omega)
  have hv : (if goodP p && inB 0 ((p.length : Int) - 1) a then (joinL p a, true) else ([], false)).1.length ≤ 13 := by
    split
    · exact Nat.le_trans (joinFrom_length _ _ _ _) pl
    · simp
  generalize (if goodP p && inB 0 ((p.length : Int) - 1) a then (joinL p a, true) else ([], false)) = u at b1 b2 hv
  have j1 := impl_JoinSpot_ev w k (by omega)
  have j2 := spec_JoinSpot_ev w k (by omega)
  have l1 := impl_LeaveSpot_ev w k (by omega)
  have l2 := spec_LeaveSpot_ev w k (by omega)
  have hl := putV_length k w
  have hfl := List.length_filter_le (fun x => decide (x ≠ k)) w
  have s0 := laws_sameInts_ev u.1 (by omega)
  refine ev_succ.1 ?_
  simp only [laws_FnBehind.j3]
  refine (ev_bind e1).2 ?_
  refine (ev_bind b1).2 ?_
  refine (ev_bind b2).2 ?_
  refine (ev_bind e2).2 ?_
  refine (ev_bind j1).2 ?_
  refine (ev_bind j2).2 ?_
  refine (ev_bind l1).2 ?_
  refine (ev_bind l2).2 ?_
  rcases Bool.eq_false_or_eq_true ((allB 0 11 w && chainB none w) && inB 0 11 k) with h | h
  · simp only [h, if_true, bne_self_eq_false, Bool.false_eq_true, if_false, ev_bind s0, ev_bind (laws_sameInts_ev (putV w k) (by omega)), ev_bind (laws_sameInts_ev (w.filter fun x => decide (x ≠ k)) (by omega)), Bool.not_true]
    exact FnBehind_last k w (by omega) h
  · simp only [h, if_true, bne_self_eq_false, Bool.false_eq_true, if_false, ev_bind s0, ev_bind (laws_sameInts_ev [] (by simp)), Bool.not_true]
    refine ev_succ.1 ?_
    simp only [laws_FnBehind.j4, Bool.false_eq_true, if_false]
    exact Ev.now _
theorem FnBehind_loop (m c : List Int) (b : List Int) (hc : c.length ≤ 1000000) (hend : Ev (fun q => laws_FnBehind.j3 q m) true) (t : List Int) : ∀ p : List Int, p ++ t = b → b.length ≤ 1000000 → (∀ x ∈ t, x ∉ c) → Ev (fun q => laws_FnBehind.l0 q m c b (b.length : Int) (p.length : Int)) true := by
  induction t with
  | nil =>
    intro p e _ _
    have e1 : ((p.length : Int) < (b.length : Int)) = False := by rw [← e]; exact c_end p
    refine ev_succ.1 ?_
    simp only [laws_FnBehind.l0, e1, if_false]
    exact hend
  | cons x t ih =>
    intro p e hb hx
    have e1 : ((p.length : Int) < (b.length : Int)) = True := by rw [← e]; exact c_lt _ _ _
    have e2 : rd b (p.length : Int) = x := by rw [← e]; exact c_rd _ _ _
    have hb2 : (p ++ x :: t).length ≤ 1000000 := by rw [e]; exact hb
    have hn : hasB x c = false := by
      cases h : hasB x c
      · rfl
      · exact absurd (hasB_iff.1 h) (hx x (by simp))
    refine ev_succ.1 ?_
    simp only [laws_FnBehind.l0, e1, e2, c_nn, if_true, ev_bind (laws_has_ev c x (by omega)), hn, Bool.false_eq_true, if_false, c_next p x t (by omega)]
    exact ih (p ++ [x]) (by rw [← e]; simp) hb (fun y hy => hx y (by simp [hy]))
theorem FnBehind (l m : List Int) (hG : l.length ≤ maxLen ∧ ∀ y ∈ l, (Lit.int .u8 y).wf = true) (hM : m.length ≤ maxLen ∧ ∀ y ∈ m, (Lit.int .u8 y).wf = true) : ∃ k, laws_FnBehind.f k l m = some true := by
  refine Ev.rounds ?_
  have hl := bytesL_wf hG.2
  have hm := bytesL_wf hM.2
  have hend := FnBehind_ends m hm
  unfold laws_FnBehind.f
  by_cases hbig : wrap64 ((l.length : Int) + (m.length : Int)) > 1048576
  · simp only [hbig, if_true]; exact Ev.now _
  obtain ⟨p, a, b, e1, pl⟩ := spec_DrawBehindOf_ok l hl
  have hi := impl_BehindOf_ev p a b (by omega)
  have hs := spec_BehindOf_ev p a b (by omega)
  simp only [hbig, if_false]
  refine (ev_bind e1).2 ?_
  refine (ev_bind hi).2 ?_
  refine (ev_bind hs).2 ?_
  rcases Bool.eq_false_or_eq_true (goodP p && (inB 0 ((p.length : Int) - 1) a && hasB b (joinL p a))) with hc | hc
  · have hc' := hc
    simp only [Bool.and_eq_true] at hc'
    obtain ⟨F, hn⟩ := goodP_forest hc'.1
    have ha := inB_iff.1 hc'.2.1
    have hj := hasB_iff.1 hc'.2.2
    have a0 : 0 ≤ a := ha.1
    have a1 : a < (p.length : Int) := by omega
    obtain ⟨b0, b1, hab⟩ := joinL_mem.1 hj
    have hj2 : a ∈ joinL p b := joinL_mem.2 ⟨a0, a1, hab.symm⟩
    have hib : inB 0 ((p.length : Int) - 1) b = true := inB_iff.2 (by omega)
    have hi2 := impl_BehindOf_ev p b a (by omega)
    rw [if_pos (by rw [hc'.1, hib, hasB_iff.2 hj2]; rfl)] at hi2
    have hsp := impl_SpreadOn_ok p a F hc'.1 hn a0 a1
    have lb : (sv p a b).length ≤ 12 := by rw [sv_length]; exact Nat.le_trans (nodes_length F a b b0 b1) hn
    have lc : (sv p b a).length ≤ 12 := by rw [sv_length]; exact Nat.le_trans (nodes_length F b a a0 a1) hn
    have hper := both_sides F a0 a1 hj
    have hnod := hper.nodup_iff.1 (nodes_nodup F (-1) a a0 a1)
    have hlen := hper.length_eq
    have ea : allN p [(a, -1)] = nodes p (-1) a := by simp [allN]
    have hho := hopsF_len F p.length [(a, -1)] (by intro x hx; rw [List.mem_singleton.1 hx]; exact ⟨a0, a1⟩) (by rw [ea]; exact nodes_length F (-1) a a0 a1)
    rw [ea] at hho
    have hap : ∀ x ∈ sv p a b, x ∉ sv p b a := fun x hx hy => (List.nodup_append.1 hnod).2.2 x ((sv_perm p a b).mem_iff.1 hx) x ((sv_perm p b a).mem_iff.1 hy) rfl
    have hbm : hasB b (sv p a b) = true := hasB_iff.2 ((sv_perm p a b).mem_iff.2 (by rw [nodes_eq F b0 b1]; simp))
    have ham : hasB a (sv p b a) = true := hasB_iff.2 ((sv_perm p b a).mem_iff.2 (by rw [nodes_eq F a0 a1]; simp))
    have lb2 := sv_length p a b
    have lc2 := sv_length p b a
    simp only [List.length_append, List.length_cons, List.length_nil] at hlen hho
    have hsum : ((sv p a b).length : Int) + ((sv p b a).length : Int) = (((hopsF p p.length [(a, -1)]).map hopS).length : Int) + 1 := by
      rw [List.length_map]; omega
    simp only [hc, if_true, bne_self_eq_false, Bool.false_eq_true, if_false, ev_bind (laws_sameInts_ev (sv p a b) (by omega)), Bool.not_true]
    refine ev_succ.1 ?_
    simp only [laws_FnBehind.j0, Bool.false_eq_true, if_false, if_true]
    refine (ev_bind hi2).2 ?_
    refine (ev_bind hsp).2 ?_
    rw [hsum]
    simp only [if_true, ev_bind (laws_has_ev (sv p a b) b (by omega)), ev_bind (laws_has_ev (sv p b a) a (by omega)), hbm, ham, Bool.not_true]
    refine ev_succ.1 ?_
    simp only [laws_FnBehind.j1, Bool.false_eq_true, if_false]
    exact FnBehind_loop m (sv p b a) (sv p a b) (by omega) hend (sv p a b) [] rfl (by omega) hap
  · simp only [hc, Bool.false_eq_true, if_false, bne_self_eq_false, ev_bind (laws_sameInts_ev [] (by simp)), Bool.not_true]
    refine ev_succ.1 ?_
    simp only [laws_FnBehind.j0, Bool.false_eq_true, if_false]
    exact hend

end Go.Proofs.Ytfkjnpgpofcinaa.Pure
