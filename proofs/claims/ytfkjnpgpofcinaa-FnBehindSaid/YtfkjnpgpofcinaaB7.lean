/- What functions of the program answer, as plain functions: used by the laws of this claim. -/
import Derived.Test.YtfkjnpgpofcinaaB0
import Derived.Test.YtfkjnpgpofcinaaF7
import Derived.Test.YtfkjnpgpofcinaaB1
import Derived.Test.YtfkjnpgpofcinaaB2
import Derived.Test.YtfkjnpgpofcinaaB26
import Derived.Test.YtfkjnpgpofcinaaQTree
namespace Go.Proofs.Ytfkjnpgpofcinaa.Pure
open Go.RowKit Go.Proofs.Ytfkjnpgpofcinaa.P Go.Proofs.YtfkjnpgpofcinaaW.PrintWords Go.Proofs.Ytfkjnpgpofcinaa.Q
set_option linter.unusedVariables false
set_option linter.unusedSimpArgs false

theorem cmp_isNaN_int_eq (a : Int) : cmp_isNaN_int.f a = some false := by
  unfold cmp_isNaN_int.f
  rw [bne_self_eq_false]

theorem cmp_Less_int_eq (a b : Int) : cmp_Less_int.f a b = some (decide (a < b)) := by
  unfold cmp_Less_int.f
  simp only [cmp_isNaN_int_eq, Option.bind_some, Bool.false_eq_true, if_false]

theorem spec_BranchesAt_ev (ps : List Int) (a : Int) (hb : ps.length ≤ 1000000000) : Ev (fun k => spec_BranchesAt.f k ps a) (if goodP ps && inB 0 ((ps.length : Int) - 1) a then (joinL ps a, true) else ([], false)) := by
  unfold spec_BranchesAt.f
  simp only [ev_bind (spec_l10Two_ev ps a a hb), allB_cons, allB_nil, Bool.and_true, Bool.and_self, ev_ite, ev_some]
  cases goodP ps
  · simp
  · cases h : inB 0 ((ps.length : Int) - 1) a
    · simp
    · have := inB_iff.1 h
      simp only [ev_bind (spec_l10Joined_ev ps a (by omega) (by omega) hb)]
      simp [ev_some]

theorem spec_l1Cur_edges_inner (l : List Int) (hl : bytesL l) (n x6 x7 : Int) (hn : n ≤ 13) (h6 : 1 ≤ x6) (h6' : x6 ≤ 3) : ∀ (m : Nat) (o : List S148) (x8 at_ seed : Int), 0 ≤ x8 → x8 + m = max x8 n → 0 ≤ at_ → at_ + 10 * m ≤ 1000000 → o.length ≤ 1000 →
    (∀ o' a s, o'.length ≤ o.length + m → at_ ≤ a → a ≤ at_ + 10 * m → ∃ (r : Int × List S148) (a' s' : Int), Ev (fun k => spec_l1Cur_edges.l0 k n o' x6 (wrap64 (x7 + 1)) l a s) (r.1, r.2, a', s') ∧ 0 ≤ r.1 ∧ r.1 ≤ 13 ∧ r.2.length ≤ 1000 ∧ 0 ≤ a' ∧ a' ≤ 100000) →
    ∃ (r : Int × List S148) (a' s' : Int), Ev (fun k => spec_l1Cur_edges.l1 k n o x6 x7 x8 l at_ seed) (r.1, r.2, a', s') ∧ 0 ≤ r.1 ∧ r.1 ≤ 13 ∧ r.2.length ≤ 1000 ∧ 0 ≤ a' ∧ a' ≤ 100000 := by
  intro m
  induction m with
  | zero =>
    intro o x8 at_ seed h8 hm h0 h1 ho hk
    obtain ⟨r, a', s', he, hr⟩ := hk o at_ seed (by omega) (by omega) (by omega)
    refine ⟨r, a', s', ev_succ.1 ?_, hr⟩
    simp only [spec_l1Cur_edges.l1, show (x8 < n) = False from eq_false (by omega), if_false]
    exact he
  | succ m ih =>
    intro o x8 at_ seed h8 hm h0 h1 ho hk
    have hlt : x8 < n := by omega
    have hw : wrap64 (x8 + 1) = x8 + 1 := w64 (by omega) (by omega)
    have hw6 : wrap64 (1 + x6) = 1 + x6 := w64 (by omega) (by omega)
    obtain ⟨b, a1, s1, e1, p0, p1⟩ := spec_l1Cur_one_ok l at_ seed (1 + x6) hl h0 (by omega) (by omega)
    have hskip : ∃ (r : Int × List S148) (a' s' : Int), Ev (fun k => spec_l1Cur_edges.l1 k n o x6 x7 (x8 + 1) l a1 s1) (r.1, r.2, a', s') ∧ 0 ≤ r.1 ∧ r.1 ≤ 13 ∧ r.2.length ≤ 1000 ∧ 0 ≤ a' ∧ a' ≤ 100000 :=
      ih o (x8 + 1) a1 s1 (by omega) (by omega) (by omega) (by omega) ho fun o' a s q0 q1 q2 => hk o' a s (by omega) (by omega) (by omega)
    rcases Bool.eq_false_or_eq_true b with hb | hb
    · by_cases h40 : (o.length : Int) < 40
      · obtain ⟨v, a2, s2, e2, _, _, g0, g1⟩ := spec_l1Cur_pick_ok l a1 s1 5 hl (by omega) (by omega) (by omega)
        obtain ⟨r, a', s', he, hr⟩ := ih (o ++ [⟨x7, x8, wrap64 (1 + v)⟩]) (x8 + 1) a2 s2 (by omega) (by omega) (by omega) (by omega) (by simp; omega) fun o' a s q0 q1 q2 => hk o' a s (by simp at q0; omega) (by omega) (by omega)
        refine ⟨r, a', s', ev_succ.1 ?_, hr⟩
        simp only [spec_l1Cur_edges.l1, show (x8 < n) = True from eq_true hlt, if_true, hw6, e1, hb, Option.bind_some, show ((o.length : Int) < 40) = True from eq_true h40, e2, show (o.length < 5864062014805) = True from eq_true (by omega), hw]
        exact he
      · obtain ⟨r, a', s', he, hr⟩ := hskip
        refine ⟨r, a', s', ev_succ.1 ?_, hr⟩
        simp only [spec_l1Cur_edges.l1, show (x8 < n) = True from eq_true hlt, if_true, hw6, e1, hb, Option.bind_some, show ((o.length : Int) < 40) = False from eq_false h40, if_false, hw]
        exact he
    · obtain ⟨r, a', s', he, hr⟩ := hskip
      refine ⟨r, a', s', ev_succ.1 ?_, hr⟩
      simp only [spec_l1Cur_edges.l1, show (x8 < n) = True from eq_true hlt, if_true, hw6, e1, hb, Option.bind_some, Bool.false_eq_true, if_false, hw]
      exact he
theorem spec_l1Cur_edges_outer (l : List Int) (hl : bytesL l) (n x6 : Int) (hn0 : 0 ≤ n) (hn : n ≤ 13) (h6 : 1 ≤ x6) (h6' : x6 ≤ 3) : ∀ (m : Nat) (o : List S148) (x7 at_ seed : Int), 0 ≤ x7 → x7 + m = max x7 n → 0 ≤ at_ → at_ + 200 * m ≤ 50000 → o.length + 20 * m ≤ 900 → ∃ (r : Int × List S148) (a' s' : Int), Ev (fun k => spec_l1Cur_edges.l0 k n o x6 x7 l at_ seed) (r.1, r.2, a', s') ∧ 0 ≤ r.1 ∧ r.1 ≤ 13 ∧ r.2.length ≤ 1000 ∧ 0 ≤ a' ∧ a' ≤ 100000 := by
  intro m
  induction m with
  | zero =>
    intro o x7 at_ seed h7 hm h0 h1 ho
    by_cases hpos : (o.length : Int) > 0
    · obtain ⟨b, a1, s1, e1, p0, p1⟩ := spec_l1Cur_one_ok l at_ seed 30 hl h0 (by omega) (by omega)
      rcases Bool.eq_false_or_eq_true b with hb | hb
      · obtain ⟨v, a2, s2, e2, _, g0, g1⟩ := spec_l1Cur_among_ok l a1 s1 [0, 100, 101] hl (by omega) (by omega) (by simp) (by simp)
        refine ⟨(n, o.set (0 : Int).toNat ⟨(rd_T148 o 0).f0, (rd_T148 o 0).f1, v⟩), a2, s2, ev_succ.1 ?_, hn0, hn, by simp; omega, by omega, by omega⟩
        simp only [spec_l1Cur_edges.l0, show (x7 < n) = False from eq_false (by omega), if_false, show ((o.length : Int) > 0) = True from eq_true hpos, show (0 < (o.length : Int)) = True from eq_true (by omega), if_true, e1, hb, Option.bind_some, e2]
        exact Ev.now _
      · refine ⟨(n, o), a1, s1, ev_succ.1 ?_, hn0, hn, by simp; omega, by omega, by omega⟩
        simp only [spec_l1Cur_edges.l0, show (x7 < n) = False from eq_false (by omega), if_false, show ((o.length : Int) > 0) = True from eq_true hpos, if_true, e1, hb, Option.bind_some, Bool.false_eq_true]
        exact Ev.now _
    · refine ⟨(n, o), at_, seed, ev_succ.1 ?_, hn0, hn, by simp; omega, by omega, by omega⟩
      simp only [spec_l1Cur_edges.l0, show (x7 < n) = False from eq_false (by omega), if_false, show ((o.length : Int) > 0) = False from eq_false hpos]
      exact Ev.now _
  | succ m ih =>
    intro o x7 at_ seed h7 hm h0 h1 ho
    have hw : wrap64 (x7 + 1) = x7 + 1 := w64 (by omega) (by omega)
    obtain ⟨r, a', s', he, hr⟩ := spec_l1Cur_edges_inner l hl n x6 x7 hn h6 h6' (n - (x7 + 1)).toNat o (x7 + 1) at_ seed (by omega) (by omega) h0 (by omega) (by omega) fun o' a s q0 q1 q2 => by
      rw [hw]
      exact ih o' (x7 + 1) a s (by omega) (by omega) (by omega) (by omega) (by omega)
    refine ⟨r, a', s', ev_succ.1 ?_, hr⟩
    simp only [spec_l1Cur_edges.l0, show (x7 < n) = True from eq_true (by omega), if_true, hw]
    exact he
theorem spec_l1Cur_edges_ok (l : List Int) (hl : bytesL l) (at_ seed : Int) (h0 : 0 ≤ at_) (h1 : at_ ≤ 1000) : ∃ n o a' s', Ev (fun k => spec_l1Cur_edges.f k l at_ seed) (n, o, a', s') ∧ 0 ≤ n ∧ n ≤ 13 ∧ o.length ≤ 1000 ∧ 0 ≤ a' ∧ a' ≤ 100000 := by
  have hj : ∀ (n b c : Int), 0 ≤ n → n ≤ 13 → 0 ≤ b → b ≤ 2000 → ∃ n' o a' s', Ev (fun k => spec_l1Cur_edges.j0 k n l b c) (n', o, a', s') ∧ 0 ≤ n' ∧ n' ≤ 13 ∧ o.length ≤ 1000 ∧ 0 ≤ a' ∧ a' ≤ 100000 := by
    intro n b c n0 n1 b0 b1
    obtain ⟨v, a1, s1, e1, q0, q1, g0, g1⟩ := spec_l1Cur_pick_ok l b c 3 hl b0 (by omega) (by omega)
    have hw : wrap64 (1 + v) = 1 + v := w64 (by omega) (by omega)
    obtain ⟨r, a', s', he, hr⟩ := spec_l1Cur_edges_outer l hl n (1 + v) n0 n1 (by omega) (by omega) n.toNat [] 0 a1 s1 (by omega) (by omega) (by omega) (by omega) (by simp; omega)
    refine ⟨r.1, r.2, a', s', ev_succ.1 ?_, hr⟩
    simp only [spec_l1Cur_edges.j0, e1, Option.bind_some, hw]
    exact he
  obtain ⟨v, b, c, e, p0, p1, g0, g1⟩ := spec_l1Cur_pick_ok l at_ seed 8 hl h0 (by omega) (by omega)
  obtain ⟨v2, b2, c2, e2, i0, i1⟩ := spec_l1Cur_one_ok l b c 30 hl (by omega) (by omega) (by omega)
  rcases Bool.eq_false_or_eq_true v2 with hv | hv
  · obtain ⟨v3, b3, c3, e3, q0, j0, j1⟩ := spec_l1Cur_among_ok l b2 c2 [0, 12, 13] hl (by omega) (by omega) (by simp) (by simp)
    have hr3 : 0 ≤ v3 ∧ v3 ≤ 13 := by
      simp only [List.mem_cons, List.not_mem_nil, or_false] at q0
      omega
    obtain ⟨n', o, a', s', he, k⟩ := hj v3 b3 c3 hr3.1 hr3.2 (by omega) (by omega)
    refine ⟨n', o, a', s', ?_, k⟩
    unfold spec_l1Cur_edges.f
    simp only [e, e2, e3, hv, Option.bind_some, if_true]
    exact he
  · have hw : wrap64 (1 + v) = 1 + v := w64 (by omega) (by omega)
    obtain ⟨n', o, a', s', he, k⟩ := hj (1 + v) b2 c2 (by omega) (by omega) (by omega) (by omega)
    refine ⟨n', o, a', s', ?_, k⟩
    unfold spec_l1Cur_edges.f
    simp only [e, e2, hv, Option.bind_some, Bool.false_eq_true, if_false, hw]
    exact he

theorem spec_GoodEdges_loop (n : Int) (t : List S148) : ∀ p : List S148, (p ++ t).length ≤ 9223372036854775806 → Ev (fun k => spec_GoodEdges.l0 k n (p ++ t) (p ++ t) ((p ++ t).length : Int) (p.length : Int)) (edgesB (wrap64 (n - 1)) (p.getLast?.map trip) (t.map trip) && (inB 1 12 n && decide ((p ++ t).length ≤ 40))) := by
  induction t with
  | nil =>
    intro p _
    refine ev_succ.1 ?_
    simp only [spec_GoodEdges.l0, c_end, Int.lt_irrefl, if_false, ev_some, spec_l1In_eq, Option.bind_some, ev_ite]
    have e : (decide (((p ++ []).length : Int) ≤ 40)) = decide ((p ++ []).length ≤ 40) := decide_eq_decide.2 (by omega)
    rw [e]
    simp only [List.map_nil, edgesB_nil, Bool.true_and]
    cases inB 1 12 n <;> simp
  | cons x t ih =>
    intro p hb
    refine ev_succ.1 ?_
    have hn := ih (p ++ [x]) (by rwa [← c_app])
    rw [← c_app] at hn
    simp only [List.getLast?_append, List.getLast?_singleton, Option.some_or, Option.map_some] at hn
    simp only [spec_GoodEdges.l0, c_lt, c_nn, rdE_at, if_true, spec_l1In_eq, Option.bind_some, ev_ite]
    have hj : ∀ b, Ev (fun k => spec_GoodEdges.j1 k n (p ++ x :: t) (p.length : Int) (p ++ x :: t) ((p ++ x :: t).length : Int) (p.length : Int) b x.f0 x.f1 x.f2) (!b && behindB (p.getLast?.map trip) (trip x) && (edgesB (wrap64 (n - 1)) (some (trip x)) (t.map trip) && (inB 1 12 n && decide ((p ++ x :: t).length ≤ 40)))) := by
      intro b
      refine ev_succ.1 ?_
      simp only [spec_GoodEdges.j1, c_next _ _ _ hb, ev_ite, ev_some]
      cases b
      · rcases List.eq_nil_or_concat p with rfl | ⟨q, y, rfl⟩
        · simpa [behindB] using hn
        · simp only [List.concat_eq_append] at *
          have e1 : wrap64 (((q ++ [y]).length : Int) - 1) = (q.length : Int) := by
            simp only [List.length_append, List.length_cons, List.length_nil] at hb ⊢
            unfold wrap64; omega
          have e2 : rd_T148 (q ++ [y] ++ x :: t) (q.length : Int) = y := by rw [← c_app]; exact rdE_at _ _ _
          have e3 : ((q.length : Int) < ((q ++ [y] ++ x :: t).length : Int)) = True := by rw [← c_app]; exact c_lt _ _ _
          have e4 : (((q ++ [y]).length : Int) > 0) = True := eq_true (by simp)
          simp only [e1, e2, e3, e4, c_nn, if_true, Bool.false_eq_true, if_false, List.getLast?_append, List.getLast?_singleton, Option.some_or, Option.map_some]
          by_cases h1 : y.f0 > x.f0
          · simp [h1, behindB, trip, show ¬ y.f0 < x.f0 by omega, show ¬ y.f0 = x.f0 by omega]
          · by_cases h2 : y.f0 = x.f0
            · by_cases h3 : y.f1 ≥ x.f1
              · simp [h2, h3, behindB, trip, show ¬ y.f1 < x.f1 by omega]
              · simp only [h1, h2, h3, if_true, if_false]
                simpa [h2, behindB, trip, show y.f1 < x.f1 by omega] using hn
            · simp only [h1, h2, if_false]
              simpa [h2, behindB, trip, show y.f0 < x.f0 by omega] using hn
      · simp
    have h0 := hj false
    have h1 := hj true
    have h2 := hj (!inB 1 100 x.f2)
    simp only [List.map_cons, edgesB_cons]
    simp only [trip] at h0 h1 h2 ⊢
    cases inB 0 (wrap64 (n - 1)) x.f0 <;> cases inB 0 (wrap64 (n - 1)) x.f1
    · simpa using h1
    · simpa using h1
    · simpa using h1
    · by_cases h3 : x.f0 ≥ x.f1
      · simp only [h3, if_true]; simpa [show ¬ x.f0 < x.f1 by omega] using h1
      · simp only [h3, if_true, if_false]
        simpa [show x.f0 < x.f1 by omega, Bool.and_assoc] using h2
theorem spec_GoodEdges_ev (n : Int) (l : List S148) (h : l.length ≤ 9223372036854775806) : Ev (fun k => spec_GoodEdges.f k n l) (goodE n (l.map trip)) := by
  unfold goodE spec_GoodEdges.f
  simpa using spec_GoodEdges_loop n l [] h

theorem spec_l1Least_eq (a b : Int) : spec_l1Least.f a b = some (min a b) := by
  unfold spec_l1Least.f
  split
  · rw [show min a b = a by omega]
  · rw [show min a b = b by omega]

end Go.Proofs.Ytfkjnpgpofcinaa.Pure
