/- What functions of the program answer, as plain functions: used by the laws of this claim. -/
import Derived.Test.YtfkjnpgpofcinaaB0
import Derived.Test.YtfkjnpgpofcinaaF9
import Derived.Test.YtfkjnpgpofcinaaB1
import Derived.Test.YtfkjnpgpofcinaaB2
import Derived.Test.YtfkjnpgpofcinaaB3
import Derived.Test.YtfkjnpgpofcinaaB7
import Derived.Test.YtfkjnpgpofcinaaB8
import Derived.Test.YtfkjnpgpofcinaaB26
import Derived.Test.YtfkjnpgpofcinaaQForest
import Derived.Test.YtfkjnpgpofcinaaQGraph
import Derived.Test.YtfkjnpgpofcinaaQTree
namespace Go.Proofs.Ytfkjnpgpofcinaa.Pure
open Go.RowKit Go.Proofs.Ytfkjnpgpofcinaa.P Go.Proofs.YtfkjnpgpofcinaaW.PrintWords Go.Proofs.Ytfkjnpgpofcinaa.Q
set_option linter.unusedVariables false
set_option linter.unusedSimpArgs false

theorem spec_l10At_inner (n : Nat) (l : List S148) (b : Int) (g : List Int) (hg : g.length = n) (ho : ∀ x ∈ l, x.f0 < x.f1) (hl : l.length ≤ 1000000) (o : List Int) (i : Int) (h0 : 0 ≤ i) (h1 : i < (n : Int)) (hol : o.length ≤ 1000) (t : List Int) : ∀ (p : List Int) (c : Int), (∀ y ∈ t, 0 ≤ y ∧ y < (n : Int)) → (p ++ t).length ≤ 10000000 →
    (∀ c, ∃ r, Ev (fun k => spec_l10At.l0 k (n : Int) l b g (o ++ [c]) (wrap64 (i + 1))) r ∧ r.length = n) → ∃ r, Ev (fun k => spec_l10At.l1 k (n : Int) l b g o i c (p ++ t) ((p ++ t).length : Int) (p.length : Int)) r ∧ r.length = n := by
  induction t with
  | nil =>
    intro p c _ _ hk
    obtain ⟨r, he, hr⟩ := hk c
    refine ⟨r, ev_succ.1 ?_, hr⟩
    simp only [spec_l10At.l1, c_end, Int.lt_irrefl, if_false, show (o.length < 17592186044416) = True from eq_true (by omega), if_true]
    exact he
  | cons x t ih =>
    intro p c hy hb hk
    have hx := hy x (by simp)
    have next : ∀ c', ∃ r, Ev (fun k => spec_l10At.l1 k (n : Int) l b g o i c' (p ++ x :: t) ((p ++ x :: t).length : Int) ((p ++ [x]).length : Int)) r ∧ r.length = n := fun c' => by
      have := ih (p ++ [x]) c' (fun y hy2 => hy y (by simp [hy2])) (by rwa [← c_app]) hk
      rwa [← c_app] at this
    obtain ⟨r, he, hr⟩ := next c
    obtain ⟨r2, he2, hr2⟩ := next x
    by_cases hc : c < 0
    · by_cases hib : i = b
      · refine ⟨r, ev_succ.1 ?_, hr⟩
        simp only [spec_l10At.l1, c_lt, c_nn, if_true, if_pos hc, if_pos hib, c_next p x t (by omega)]
        exact he
      · by_cases hf : rd g i < 100000
        · by_cases heq : wrap64 (rd g x + costV (l.map trip) x i) = rd g i
          · refine ⟨r2, ev_succ.1 ?_, hr2⟩
            simp only [spec_l10At.l1, c_lt, c_nn, c_rd, if_true, if_pos hc, if_neg hib, show (0 ≤ i) = True from eq_true h0, hg, show (i < (n : Int)) = True from eq_true h1, if_pos hf, show (0 ≤ x) = True from eq_true hx.1, show (x < (n : Int)) = True from eq_true hx.2, ev_bind (spec_l9Edge_ev l x i ho (by omega)), if_pos heq, c_next p x t (by omega)]
            exact he2
          · refine ⟨r, ev_succ.1 ?_, hr⟩
            simp only [spec_l10At.l1, c_lt, c_nn, c_rd, if_true, if_pos hc, if_neg hib, show (0 ≤ i) = True from eq_true h0, hg, show (i < (n : Int)) = True from eq_true h1, if_pos hf, show (0 ≤ x) = True from eq_true hx.1, show (x < (n : Int)) = True from eq_true hx.2, ev_bind (spec_l9Edge_ev l x i ho (by omega)), if_neg heq, c_next p x t (by omega)]
            exact he
        · refine ⟨r, ev_succ.1 ?_, hr⟩
          simp only [spec_l10At.l1, c_lt, c_nn, if_true, if_pos hc, if_neg hib, show (0 ≤ i) = True from eq_true h0, hg, show (i < (n : Int)) = True from eq_true h1, if_neg hf, c_next p x t (by omega)]
          exact he
    · refine ⟨r, ev_succ.1 ?_, hr⟩
      simp only [spec_l10At.l1, c_lt, c_nn, if_true, if_neg hc, c_next p x t (by omega)]
      exact he
theorem spec_l10At_loop (n : Nat) (l : List S148) (b : Int) (g : List Int) (hg : g.length = n) (hn : n ≤ 100) (ho : ∀ x ∈ l, x.f0 < x.f1) (hx : ∀ x ∈ l, (0 ≤ x.f0 ∧ x.f0 < (n : Int)) ∧ 0 ≤ x.f1 ∧ x.f1 < (n : Int)) (hl : l.length ≤ 1000000) : ∀ (m : Nat) (o : List Int), o.length + m = n → ∃ r, Ev (fun k => spec_l10At.l0 k (n : Int) l b g o (o.length : Int)) r ∧ r.length = n := by
  intro m
  induction m with
  | zero =>
    intro o hm
    refine ⟨o, ev_succ.1 ?_, by omega⟩
    simp only [spec_l10At.l0, show ((o.length : Int) < (n : Int)) = False from eq_false (by omega), if_false]
    exact Ev.now _
  | succ m ih =>
    intro o hm
    obtain ⟨q, eq_, hq, hqy⟩ := spec_l8Near_ok l (o.length : Int) (n : Int) hx hl
    obtain ⟨r, he, hr⟩ := spec_l10At_inner n l b g hg ho hl o (o.length : Int) (by omega) (by omega) (by omega) q [] (-1) hqy (by simp; omega) fun c => by
      have hw : wrap64 ((o.length : Int) + 1) = ((o ++ [c]).length : Int) := by rw [w64 (by omega) (by omega)]; simp
      rw [hw]
      exact ih (o ++ [c]) (by simp; omega)
    refine ⟨r, ev_succ.1 ?_, hr⟩
    simp only [spec_l10At.l0, show ((o.length : Int) < (n : Int)) = True from eq_true (by omega), if_true, ev_bind eq_]
    exact he
theorem spec_l10At_ok (n : Nat) (l : List S148) (b : Int) (hn : n ≤ 100) (hb0 : 0 ≤ b) (hb1 : b < (n : Int)) (ho : ∀ x ∈ l, x.f0 < x.f1) (hx : ∀ x ∈ l, (0 ≤ x.f0 ∧ x.f0 < (n : Int)) ∧ 0 ≤ x.f1 ∧ x.f1 < (n : Int)) (hl : l.length ≤ 1000000) : ∃ r, Ev (fun k => spec_l10At.f k (n : Int) l b) r ∧ r.length = n := by
  obtain ⟨g, eg, hg⟩ := spec_l9Fars_ok n l b hn hb0 hb1 hx hl
  obtain ⟨r, he, hr⟩ := spec_l10At_loop n l b g hg hn ho hx hl n [] (by simp)
  refine ⟨r, ?_, hr⟩
  unfold spec_l10At.f
  simp only [ev_bind eg]
  exact he

theorem spec_TreeAt_ok (n : Int) (l : List S148) (b : Int) (hn0 : 0 ≤ n) (hn : n ≤ 13) (hl : l.length ≤ 1000) : ∃ p ok, Ev (fun k => spec_TreeAt.f k n l b) (p, ok) ∧ p.length ≤ 13 ∧ (ok = true → 1 ≤ p.length) := by
  have hw : wrap64 (n - 1) = n - 1 := w64 (by omega) (by omega)
  cases hg : goodE n (l.map trip)
  · refine ⟨[], false, ?_, by simp, by simp⟩
    unfold spec_TreeAt.f
    simp only [ev_bind (spec_GoodEdges_ev n l (by omega)), hg, Bool.false_eq_true, if_false]
    exact Ev.now _
  · cases hi : inB 0 (n - 1) b
    · refine ⟨[], false, ?_, by simp, by simp⟩
      unfold spec_TreeAt.f
      simp only [ev_bind (spec_GoodEdges_ev n l (by omega)), hg, if_true, spec_l1In_eq, Option.bind_some, hw, hi, Bool.false_eq_true, if_false]
      exact Ev.now _
    · obtain ⟨m, rfl, m1, m2, hx, _⟩ := goodE_open hg
      have hib := inB_iff.1 hi
      have hx2 : ∀ x ∈ l, 0 ≤ x.f0 ∧ x.f0 < x.f1 ∧ x.f1 < (m : Int) := fun x h => by
        have := hx (trip x) (List.mem_map.2 ⟨x, h, rfl⟩)
        simp only [trip] at this
        omega
      obtain ⟨r, he, hr⟩ := spec_l10At_ok m l b (by omega) (by omega) (by omega) (fun x h => (hx2 x h).2.1) (fun x h => by have := hx2 x h; omega) (by omega)
      refine ⟨r, true, ?_, by omega, fun _ => by omega⟩
      unfold spec_TreeAt.f
      simp only [ev_bind (spec_GoodEdges_ev (m : Int) l (by omega)), hg, if_true, spec_l1In_eq, Option.bind_some, hw, hi, ev_bind he]
      exact Ev.now _

theorem spec_l1Cur_parents_ok (l : List Int) (hl : bytesL l) (at_ seed : Int) (h0 : 0 ≤ at_) (h1 : at_ ≤ 1000) : ∃ p a' s', Ev (fun k => spec_l1Cur_parents.f k l at_ seed) (p, a', s') ∧ p.length ≤ 13 ∧ 0 ≤ a' ∧ a' ≤ 200000 := by
  obtain ⟨n, o, a1, s1, e1, n0, n1, ol, p0, p1⟩ := spec_l1Cur_edges_ok l hl at_ seed h0 h1
  obtain ⟨v, a2, s2, e2, _, _, q0, q1⟩ := spec_l1Cur_pick_ok l a1 s1 n hl p0 (by omega) (by omega)
  obtain ⟨p, ok, e3, pl, pk⟩ := spec_TreeAt_ok n o v n0 n1 ol
  have hf : ∀ a s, 0 ≤ a → a ≤ 150000 → ∃ p' a' s', Ev (fun k => spec_l1Cur_parents.j0 k p false l a s) (p', a', s') ∧ p'.length ≤ 13 ∧ 0 ≤ a' ∧ a' ≤ 200000 := fun a s b0 b1 => by
    refine ⟨p, a, s, ev_succ.1 ?_, pl, b0, by omega⟩
    simp only [spec_l1Cur_parents.j0, Bool.false_eq_true, if_false]
    exact Ev.now _
  unfold spec_l1Cur_parents.f
  simp only [ev_bind e1, e2, Option.bind_some, ev_bind e3]
  cases ok
  · simp only [Bool.false_eq_true, if_false]
    exact hf a2 s2 (by omega) (by omega)
  · have hp := pk rfl
    obtain ⟨f, a3, s3, e4, r0, r1⟩ := spec_l1Cur_one_ok l a2 s2 12 hl (by omega) (by omega) (by omega)
    simp only [if_true, e4, Option.bind_some]
    cases f
    · exact hf a3 s3 (by omega) (by omega)
    · obtain ⟨i, a4, s4, e5, i0, i1, t0, t1⟩ := spec_l1Cur_pick_ok l a3 s3 (p.length : Int) hl (by omega) (by omega) (by omega)
      obtain ⟨j, a5, s5, e6, _, _, u0, u1⟩ := spec_l1Cur_pick_ok l a4 s4 9 hl (by omega) (by omega) (by omega)
      refine ⟨p.set (i : Int).toNat (wrap64 (j - 2)), a5, s5, ev_succ.1 ?_, by simpa using pl, by omega, by omega⟩
      simp only [spec_l1Cur_parents.j0, if_true, e5, e6, Option.bind_some, show (0 ≤ i) = True from eq_true i0, show (i < (p.length : Int)) = True from eq_true (by omega)]
      exact Ev.now _

theorem spec_DrawBehindOf_ok (l : List Int) (hl : bytesL l) : ∃ p a b, Ev (fun k => spec_DrawBehindOf.f k l) (p, a, b) ∧ p.length ≤ 13 := by
  obtain ⟨p, a1, s1, e1, pl, p0, p1⟩ := spec_l1Cur_parents_ok l hl 0 0 (by omega) (by omega)
  have hw : wrap64 ((p.length : Int) + 1) = (p.length : Int) + 1 := w64 (by omega) (by omega)
  obtain ⟨v, a2, s2, e2, _, _, q0, q1⟩ := spec_l1Cur_pick_ok l a1 s1 ((p.length : Int) + 1) hl p0 (by omega) (by omega)
  have e3 := spec_BranchesAt_ev p v (by omega)
  have hv : (if goodP p && inB 0 ((p.length : Int) - 1) v then (joinL p v, true) else ([], false)).1.length ≤ 13 := by
    split
    · exact Nat.le_trans (joinFrom_length _ _ _ _) pl
    · simp
  generalize (if goodP p && inB 0 ((p.length : Int) - 1) v then (joinL p v, true) else ([], false)) = u at e3 hv
  obtain ⟨L, ok⟩ := u
  simp only at hv
  have hf : ∀ a s, 0 ≤ a → a ≤ 1000000 → ∃ b, Ev (fun k => spec_DrawBehindOf.j0 k p v L false l a s) (p, v, b) := fun a s b0 b1 => by
    obtain ⟨x, a3, s3, e4, _⟩ := spec_l1Cur_pick_ok l a s 9 hl b0 (by omega) (by omega)
    refine ⟨x, ev_succ.1 ?_⟩
    simp only [spec_DrawBehindOf.j0, Bool.false_eq_true, if_false, e4, Option.bind_some]
    exact Ev.now _
  have main : ∃ b, Ev (fun k => if (L, ok).2 = true then (if ((L, ok).1.length : Int) > 0 then ((spec_l1Cur_one.f l a2 s2 6).bind fun bt1383 => (spec_DrawBehindOf.j0 k p v L (!bt1383.1) l bt1383.2.1 bt1383.2.2)) else (spec_DrawBehindOf.j0 k p v L false l a2 s2)) else (spec_DrawBehindOf.j0 k p v L false l a2 s2)) (p, v, b) := by
    cases ok
    · simp only [Bool.false_eq_true, if_false]; exact hf a2 s2 (by omega) (by omega)
    · simp only [if_true]
      by_cases h0 : (L.length : Int) > 0
      · obtain ⟨c, a3, s3, e4, r0, r1⟩ := spec_l1Cur_one_ok l a2 s2 6 hl (by omega) (by omega) (by omega)
        simp only [if_pos h0, e4, Option.bind_some]
        cases c
        · obtain ⟨i, a4, s4, e5, i0, i1, _⟩ := spec_l1Cur_pick_ok l a3 s3 (L.length : Int) hl (by omega) (by omega) (by omega)
          refine ⟨rd L i, ev_succ.1 ?_⟩
          simp only [spec_DrawBehindOf.j0, Bool.not_false, if_true, e5, Option.bind_some, show (0 ≤ i) = True from eq_true i0, show (i < (L.length : Int)) = True from eq_true (by omega)]
          exact Ev.now _
        · exact hf a3 s3 (by omega) (by omega)
      · simp only [if_neg h0]; exact hf a2 s2 (by omega) (by omega)
  obtain ⟨b, hb⟩ := main
  refine ⟨p, v, b, ?_, pl⟩
  unfold spec_DrawBehindOf.f
  rw [slices_xorshift_Next_eq]
  refine ev_some_bind.2 ?_
  refine (ev_bind e1).2 ?_
  rw [hw, e2]
  refine ev_some_bind.2 ?_
  exact (ev_bind e3).2 hb

theorem impl_BehindOf_ev (ps : List Int) (a b : Int) (hb : ps.length ≤ 1000000000) : Ev (fun k => impl_BehindOf.f k ps a b) (if (goodP ps && (inB 0 ((ps.length : Int) - 1) a && hasB b (joinL ps a))) = true then (sv ps a b, true) else ([], false)) := by
  unfold impl_BehindOf.f
  simp only [ev_bind (impl_goodTree_ev ps [a, b] hb (by simp)), allB_cons, allB_nil, Bool.and_true, ev_ite, ev_some]
  cases hg : goodP ps
  · simp
  · obtain ⟨F, hl⟩ := goodP_forest hg
    cases h : inB 0 ((ps.length : Int) - 1) a
    · simp
    · have hi := inB_iff.1 h
      have hj : (joinL ps a).length ≤ ps.length := joinFrom_length _ _ _ _
      simp only [Bool.true_and, ev_bind (impl_branches_ev ps a (by omega) (by omega) hb), ev_bind (slices_Contains_int_int_ev (joinL ps a) b (by omega)), ev_ite, ev_some]
      rcases Bool.eq_false_or_eq_true (hasB b (joinL ps a)) with h2 | h2
      · have hm := joinL_mem.1 (hasB_iff.1 h2)
        have hin : inB 0 ((ps.length : Int) - 1) b = true := inB_iff.2 (by omega)
        simp only [hin, h2, if_true, ev_bind (impl_behind_ev F hl a b hm.1 hm.2.1), ev_some]
      · simp [h2]

theorem spec_BehindOf_ev (ps : List Int) (a b : Int) (hb : ps.length ≤ 1000000000) : Ev (fun k => spec_BehindOf.f k ps a b) (if (goodP ps && (inB 0 ((ps.length : Int) - 1) a && hasB b (joinL ps a))) = true then (sv ps a b, true) else ([], false)) := by
  unfold spec_BehindOf.f
  simp only [ev_bind (spec_l10Two_ev ps a a hb), Bool.and_self, ev_ite, ev_some]
  cases hg : goodP ps
  · simp
  · obtain ⟨F, hl⟩ := goodP_forest hg
    cases h : inB 0 ((ps.length : Int) - 1) a
    · simp
    · have hi := inB_iff.1 h
      have hj : (joinL ps a).length ≤ ps.length := joinFrom_length _ _ _ _
      simp only [Bool.and_self, Bool.true_and, if_true, ev_bind (spec_l10Joined_ev ps a (by omega) (by omega) hb), ev_bind (spec_l1Has_ev (joinL ps a) b (by omega)), ev_ite, ev_some]
      rcases Bool.eq_false_or_eq_true (hasB b (joinL ps a)) with h2 | h2
      · have hm := joinL_mem.1 (hasB_iff.1 h2)
        simp only [h2, if_true, ev_bind (spec_l14Behind_ev F hl a b hm.1 hm.2.1), ev_some]
      · simp [h2]

end Go.Proofs.Ytfkjnpgpofcinaa.Pure
