/- The plain statement behind the law FnExactBehindOf: for all arguments it answers true. -/
import Derived.Test.YtolncjkfcmbieaaB0
import Derived.Test.YtolncjkfcmbieaaF3
import Derived.Test.YtolncjkfcmbieaaB1
import Derived.Test.YtolncjkfcmbieaaB2
import Derived.Test.YtolncjkfcmbieaaQForest
import Derived.Test.YtolncjkfcmbieaaQTree
namespace Go.Proofs.Ytolncjkfcmbieaa.Pure
open Go.RowKit Go.Proofs.Ytolncjkfcmbieaa.P Go.Proofs.YtolncjkfcmbieaaW.PrintWords Go.Proofs.Ytolncjkfcmbieaa.Q
set_option linter.unusedVariables false
set_option linter.unusedSimpArgs false

def hopP (h : S162) : Int × Int := (h.f0, h.f1)
theorem impl_behind_loop (a n : Int) (t : List S162) : ∀ (p : List S162) (o : List Int), o.length + t.length ≤ 100000 → (p ++ t).length ≤ 100000 → Ev (fun k => impl_behind.l0 k a n o (p ++ t) ((p ++ t).length : Int) (p.length : Int)) ((bhF n a o (t.map hopP)).mergeSort fun x y => decide (x ≤ y)) := by
  induction t with
  | nil =>
    intro p o hl hp
    simp only [List.append_nil] at hp
    refine ev_succ.1 ?_
    simp only [impl_behind.l0, c_end, List.append_nil, Int.lt_irrefl, if_false, slices_Sort_int_int_eq o (by omega), Option.bind_some, ev_some, List.map_nil, bhF]
  | cons x t ih =>
    intro p o hl hp
    simp only [List.length_cons] at hl
    have hn0 := ih (p ++ [x]) o (by omega) (by rwa [← c_app])
    have hn1 := ih (p ++ [x]) (o ++ [x.f1]) (by simp only [List.length_append, List.length_cons, List.length_nil]; omega) (by rwa [← c_app])
    rw [← c_app] at hn0 hn1
    have e3 : (o.length < 17592186044416) = True := eq_true (by omega)
    have hj : Ev (fun k => impl_behind.j1 k a n o (p ++ x :: t) ((p ++ x :: t).length : Int) (p.length : Int) false x.f0 x.f1) ((if hasB x.f0 o = true then bhF n a (o ++ [x.f1]) (t.map hopP) else bhF n a o (t.map hopP)).mergeSort fun x y => decide (x ≤ y)) := by
      refine ev_succ.1 ?_
      simp only [impl_behind.j1, Bool.false_eq_true, if_false, ev_bind (slices_Contains_int_int_ev o x.f0 (by omega)), e3, if_true, c_next p x t (by omega), ev_ite]
      rcases Bool.eq_false_or_eq_true (hasB x.f0 o) with h | h
      · simpa [h] using hn1
      · simpa [h] using hn0
    have hj2 : Ev (fun k => impl_behind.j1 k a n o (p ++ x :: t) ((p ++ x :: t).length : Int) (p.length : Int) true x.f0 x.f1) ((bhF n a o (t.map hopP)).mergeSort fun x y => decide (x ≤ y)) := by
      refine ev_succ.1 ?_
      simp only [impl_behind.j1, if_true, c_next p x t (by omega)]
      exact hn0
    refine ev_succ.1 ?_
    simp only [impl_behind.l0, c_lt, c_nn, rdHop_at, if_true, ev_ite, List.map_cons, bhF, hopP]
    by_cases h1 : x.f0 = n
    · rw [if_pos h1]
      by_cases h2 : x.f1 = a
      · rw [if_pos ⟨h1, h2⟩, show (x.f1 == a) = true from by simp [h2]]
        exact hj2
      · rw [if_neg (fun h => h2 h.2), show (x.f1 == a) = false from by simp [h2]]
        exact hj
    · rw [if_neg h1, if_neg (fun h => h1 h.1)]
      exact hj
theorem impl_behind_ev {ps : List Int} (F : Forest ps) (hb : ps.length ≤ 12) (a n : Int) (h0 : 0 ≤ n) (h1 : n < (ps.length : Int)) : Ev (fun k => impl_behind.f k ps a n) (sv ps a n) := by
  unfold impl_behind.f
  simp only [ev_bind (impl_spread_ev F hb n h0 h1)]
  have hl := nodes_length F (-1) n h0 h1
  have hal := hopsF_length F ps.length [(n, -1)] (by intro x hx; rw [List.mem_singleton.1 hx]; exact ⟨h0, h1⟩)
  have e : allN ps [(n, -1)] = nodes ps (-1) n := by simp [allN]
  rw [e] at hal
  have h := impl_behind_loop a n ((hopsF ps ps.length [(n, -1)]).map hopS) [] [n] (by simp; omega) (by simp; omega)
  have hp := behind_perm F (at_ := a) h0 h1 ps.length (Nat.le_refl _)
  have hm : ((hopsF ps ps.length [(n, -1)]).map hopS).map hopP = hopsF ps ps.length [(n, -1)] := by
    rw [List.map_map]
    exact List.map_id _
  rw [hm] at h
  have hs : ((bhF n a [n] (hopsF ps ps.length [(n, -1)])).mergeSort fun x y => decide (x ≤ y)) = sv ps a n := by
    have h2 := rowB_perm ps a n (joinL ps n) [n] (by simp) (by have := nodes_nodup F a n h0 h1; rw [nodes_eq F h0 h1] at this; exact this)
    rw [rowB_sv F a n h0 h1] at h2
    exact sort_of_perm (hp.trans (sv_perm ps a n).symm) h2.1
  rw [hs] at h
  exact h

theorem impl_BehindOf_ev (ps : List Int) (a b : Int) (hb : ps.length ≤ 1000000000) : Ev (fun k => impl_BehindOf.f k ps a b) (if (goodP ps && (inB 0 ((ps.length : Int) - 1) a && hasB b (joinL ps a))) = true then (sv ps a b, true) else ([], false)) := by
  unfold impl_BehindOf.f
  simp only [ev_bind (impl_goodTree_ev ps [a, b] hb (by simp)), allB_cons, allB_nil, Bool.and_true, ev_ite, ev_some]
  cases hg : goodP ps
  · simp
  · obtain ⟨F, hl⟩ := goodP_forest hg
    cases h : inB 0 ((ps.length : Int) - 1) a
    · simp
    · have hi := inB_iff.1 h
      have hj : (joinL ps a).length ≤ ps.length := joinFrom_length _ _ _ _
      simp only [Bool.true_and, ev_bind (impl_branches_ev ps a (by omega) (by omega) hb), ev_bind (slices_Contains_int_int_ev (joinL ps a) b (by omega)), ev_ite, ev_some]
      rcases Bool.eq_false_or_eq_true (hasB b (joinL ps a)) with h2 | h2
      · have hm := joinL_mem.1 (hasB_iff.1 h2)
        have hin : inB 0 ((ps.length : Int) - 1) b = true := inB_iff.2 (by omega)
        simp only [hin, h2, if_true, ev_bind (impl_behind_ev F hl a b hm.1 hm.2.1), ev_some]
      · simp [h2]

theorem FnExactBehindOf (l : List Int) (a b : Int) (hG : l.length ≤ maxLen ∧ ∀ y ∈ l, (Lit.int .i64 y).wf = true) (ha : (Lit.int .i64 a).wf = true) (hb_ : (Lit.int .i64 b).wf = true) : ∃ k, laws_FnExactBehindOf.f k l a b = some true := by

  refine Ev.rounds ?_
  unfold laws_FnExactBehindOf.f
  by_cases hbig : (l.length : Int) > 1048576
  · simp only [hbig, if_true]; exact Ev.now _
  have hs : l.length ≤ 1048576 := by omega
  have hv1 : (if (goodP l && (inB 0 ((l.length : Int) - 1) a && hasB b (joinL l a))) = true then (sv l a b, true) else ([], false)).1.length ≤ 1048576 := by
    split
    · rename_i h
      simp only [Bool.and_eq_true] at h
      obtain ⟨F, hl⟩ := goodP_forest h.1
      have hm := joinL_mem.1 (hasB_iff.1 h.2.2)
      have := nodes_length F a b hm.1 hm.2.1
      simp only [sv_length]; omega
    · simp
  simp only [hbig, if_false, ev_bind (laws_toIntS_ev l (by omega)), ev_bind (spec_BehindOf_ev l a b (by omega)), ev_bind (impl_BehindOf_ev l a b (by omega))]
  have hi := impl_BehindOf_ev l a b (by omega)
  generalize (if (goodP l && (inB 0 ((l.length : Int) - 1) a && hasB b (joinL l a))) = true then (sv l a b, true) else ([], false)) = v at hv1 hi ⊢
  obtain ⟨r1, r2⟩ := v
  simp only at hv1
  simp only [ev_bind (laws_eqIntS_ev r1 (by omega)), if_true, bne_self_eq_false]
  refine ev_succ.1 ?_
  simp only [laws_FnExactBehindOf.j0, Bool.false_eq_true, if_false, if_true, bne_self_eq_false, ev_bind (laws_toIntS_ev l (by omega)), ev_bind (laws_eqIntS_ev l (by omega)), ev_bind (laws_eqIntS_ev r1 (by omega)), ev_bind (laws_markIntS_ev l 1 (by omega) (by omega) (by omega)), show (1 + (l.length : Int) < 0) = False from eq_false (by omega)]
  refine ev_succ.1 ?_
  simp only [laws_FnExactBehindOf.j1, Bool.false_eq_true, if_false, if_true, bne_self_eq_false, ev_bind (laws_markIntS_ev r1 1 (by omega) (by omega) (by omega)), ev_bind (laws_heldIntS_ev r1.length 1 (by omega) (by omega) (by omega)), show (1 + (r1.length : Int) < 0) = False from eq_false (by omega), ev_bind (laws_toIntS_ev l (by omega)), ev_bind hi, ev_bind (laws_eqIntS_ev r1 (by omega))]
  refine ev_succ.1 ?_
  simp only [laws_FnExactBehindOf.j2, Bool.false_eq_true, if_false, if_true, bne_self_eq_false, ev_bind (laws_heldIntS_ev r1.length 1 (by omega) (by omega) (by omega)), show (1 + (r1.length : Int) < 0) = False from eq_false (by omega)]
  exact Ev.now _

end Go.Proofs.Ytolncjkfcmbieaa.Pure
