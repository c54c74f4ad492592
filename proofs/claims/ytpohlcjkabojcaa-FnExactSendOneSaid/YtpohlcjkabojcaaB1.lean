/- What functions of the program answer, as plain functions: used by the laws of this claim. -/
import Derived.Test.YtpohlcjkabojcaaB0
import Derived.Test.YtpohlcjkabojcaaF1
namespace Go.Proofs.Ytpohlcjkabojcaa.Pure
open Go.RowKit Go.Proofs.Ytpohlcjkabojcaa.P Go.Proofs.YtpohlcjkabojcaaW.PrintWords Go.Proofs.Ytpohlcjkabojcaa.Q
set_option linter.unusedVariables false
set_option linter.unusedSimpArgs false

theorem laws_szEdgeS_eq (l : List S105) (h : l.length ≤ maxLen) : laws_szEdgeS.f l 1048576 = some (if (l.length : Int) > 1048576 then -1 else 1048576 - (l.length : Int)) := by
  unfold laws_szEdgeS.f
  unfold maxLen at h
  rw [w64 (by omega) (by omega)]
  split <;> split <;> first | rfl | omega

theorem laws_szIntS_eq (l : List Int) (a : Int) (h : l.length ≤ maxLen) (h0 : 0 ≤ a) (h1 : a ≤ 1048576) : laws_szIntS.f l a = some (if (l.length : Int) > a then -1 else a - (l.length : Int)) := by
  unfold laws_szIntS.f
  unfold maxLen at h
  rw [w64 (by omega) (by omega)]
  split <;> split <;> first | rfl | omega

theorem laws_szPlace_eq (x y : Int) (l : List Int) (a : Int) (h : l.length ≤ maxLen) (h0 : 0 ≤ a) (h1 : a ≤ 1048576) : laws_szPlace.f x y l a = some (if (l.length : Int) > a then -1 else a - (l.length : Int)) := by
  unfold laws_szPlace.f
  rw [laws_szIntS_eq l a h h0 h1]
  simp only [Option.bind_some]
  split <;> split <;> first | rfl | omega

theorem laws_szPlaceS_loop (t : List S129) : ∀ (p : List S129) (a : Int), (p ++ t).length ≤ 9223372036854775806 → (∀ x ∈ t, x.f2.length ≤ maxLen) → 0 ≤ a → a ≤ 1048576 → Ev (fun k => laws_szPlaceS.l0 k (p ++ t) a (p.length : Int)) (if (lplIn t : Int) > a then -1 else a - (lplIn t : Int)) := by
  induction t with
  | nil =>
    intro p a _ _ h0 _
    refine ev_succ.1 ?_
    rw [show lplIn ([] : List S129) = 0 from rfl]
    simp only [laws_szPlaceS.l0, c_end, Int.lt_irrefl, if_false, ev_some]
    rw [if_neg (by omega)]; simp
  | cons x t ih =>
    intro p a hb hx h0 h1
    refine ev_succ.1 ?_
    simp only [laws_szPlaceS.l0, c_lt, c_nn, rdLPlace_at, c_next p x t hb, if_true, laws_szPlace_eq x.f0 x.f1 x.f2 a (hx x (by simp)) h0 h1, Option.bind_some, ev_ite, ev_some]
    rw [show lplIn (x :: t) = x.f2.length + lplIn t from rfl]
    by_cases h2 : (x.f2.length : Int) > a
    · simp only [h2, if_true, show ((-1 : Int) < 0) = True from eq_true (by decide)]
      rw [if_pos (by omega)]
    · simp only [h2, if_false, show (a - (x.f2.length : Int) < 0) = False from eq_false (by omega)]
      have := ih (p ++ [x]) (a - (x.f2.length : Int)) (by rwa [← c_app]) (fun y hy => hx y (by simp [hy])) (by omega) (by omega)
      rw [← c_app] at this
      have e : (if (lplIn t : Int) > a - (x.f2.length : Int) then (-1 : Int) else a - (x.f2.length : Int) - (lplIn t : Int)) = (if ((x.f2.length + lplIn t : Nat) : Int) > a then -1 else a - ((x.f2.length + lplIn t : Nat) : Int)) := by
        split <;> split <;> omega
      rw [← e]; exact this
theorem laws_szPlaceS_ev (l : List S129) (a : Int) (h : l.length ≤ maxLen ∧ ∀ x ∈ l, x.f2.length ≤ maxLen) (h0 : 0 ≤ a) (h1 : a ≤ 1048576) : Ev (fun k => laws_szPlaceS.f k l a) (if (lplSize l : Int) > a then -1 else a - (lplSize l : Int)) := by
  have hm := h.1
  unfold maxLen at hm
  have e := lplIn_eq l
  unfold laws_szPlaceS.f
  rw [w64 (n := a - (l.length : Int)) (by omega) (by omega)]
  simp only [ev_ite, ev_some]
  by_cases h2 : a - (l.length : Int) < 0
  · rw [if_pos h2, if_pos (by omega)]
  · rw [if_neg h2]
    have := laws_szPlaceS_loop l [] (a - (l.length : Int)) (by simp; omega) h.2 (by omega) (by omega)
    have e2 : (if (lplIn l : Int) > a - (l.length : Int) then (-1 : Int) else a - (l.length : Int) - (lplIn l : Int)) = (if (lplSize l : Int) > a then -1 else a - (lplSize l : Int)) := by
      split <;> split <;> omega
    rw [← e2]; exact this

theorem laws_szCampus_ev (n : Int) (l : List S105) (d : List Int) (h : List S129) (hl : l.length ≤ maxLen) (hd : d.length ≤ maxLen) (hh : h.length ≤ maxLen ∧ ∀ x ∈ h, x.f2.length ≤ maxLen) : ∃ r, Ev (fun k => laws_szCampus.f k n l d h 1048576) r ∧ (r < 0 ∨ (l.length ≤ 1048576 ∧ d.length ≤ 1048576 ∧ lplSize h ≤ 1048576 ∧ ¬ r < 0)) := by
  unfold laws_szCampus.f
  simp only [laws_szEdgeS_eq l hl, Option.bind_some, ev_ite, ev_some]
  by_cases h1 : (l.length : Int) > 1048576
  · exact ⟨-1, by simp [h1], .inl (by decide)⟩
  · simp only [h1, if_false, show (1048576 - (l.length : Int) < 0) = False from eq_false (by omega), laws_szIntS_eq d (1048576 - (l.length : Int)) hd (by omega) (by omega), Option.bind_some, ev_ite, ev_some]
    by_cases h2 : (d.length : Int) > 1048576 - (l.length : Int)
    · exact ⟨-1, by simp [h2], .inl (by decide)⟩
    · have hp := laws_szPlaceS_ev h (1048576 - (l.length : Int) - (d.length : Int)) hh (by omega) (by omega)
      simp only [h2, if_false, show (1048576 - (l.length : Int) - (d.length : Int) < 0) = False from eq_false (by omega), ev_bind hp, ev_ite, ev_some]
      by_cases h3 : (lplSize h : Int) > 1048576 - (l.length : Int) - (d.length : Int)
      · exact ⟨-1, by simp [h3], .inl (by decide)⟩
      · exact ⟨_, by rw [if_neg h3, if_neg (by omega)], .inr ⟨by omega, by omega, by omega, by omega⟩⟩

theorem spec_l1In_eq (a b c : Int) : spec_l1In.f a b c = some (inB b c a) := by
  unfold spec_l1In.f inB
  by_cases h1 : a ≥ b <;> by_cases h2 : a ≤ c <;> simp [h1, h2] <;> omega

theorem spec_GoodEdges_loop (n : Int) (t : List S86) : ∀ p : List S86, (p ++ t).length ≤ 9223372036854775806 → Ev (fun k => spec_GoodEdges.l0 k n (p ++ t) (p ++ t) ((p ++ t).length : Int) (p.length : Int)) (edgesB (wrap64 (n - 1)) (p.getLast?.map trip) (t.map trip) && (inB 1 12 n && decide ((p ++ t).length ≤ 40))) := by
  induction t with
  | nil =>
    intro p _
    refine ev_succ.1 ?_
    simp only [spec_GoodEdges.l0, c_end, Int.lt_irrefl, if_false, ev_some, spec_l1In_eq, Option.bind_some, ev_ite]
    have e : (decide (((p ++ []).length : Int) ≤ 40)) = decide ((p ++ []).length ≤ 40) := decide_eq_decide.2 (by omega)
    rw [e]
    simp only [List.map_nil, edgesB_nil, Bool.true_and]
    cases inB 1 12 n <;> simp
  | cons x t ih =>
    intro p hb
    refine ev_succ.1 ?_
    have hn := ih (p ++ [x]) (by rwa [← c_app])
    rw [← c_app] at hn
    simp only [List.getLast?_append, List.getLast?_singleton, Option.some_or, Option.map_some] at hn
    simp only [spec_GoodEdges.l0, c_lt, c_nn, rdE_at, if_true, spec_l1In_eq, Option.bind_some, ev_ite]
    have hj : ∀ b, Ev (fun k => spec_GoodEdges.j1 k n (p ++ x :: t) (p.length : Int) (p ++ x :: t) ((p ++ x :: t).length : Int) (p.length : Int) b x.f0 x.f1 x.f2) (!b && behindB (p.getLast?.map trip) (trip x) && (edgesB (wrap64 (n - 1)) (some (trip x)) (t.map trip) && (inB 1 12 n && decide ((p ++ x :: t).length ≤ 40)))) := by
      intro b
      refine ev_succ.1 ?_
      simp only [spec_GoodEdges.j1, c_next _ _ _ hb, ev_ite, ev_some]
      cases b
      · rcases List.eq_nil_or_concat p with rfl | ⟨q, y, rfl⟩
        · simpa [behindB] using hn
        · simp only [List.concat_eq_append] at *
          have e1 : wrap64 (((q ++ [y]).length : Int) - 1) = (q.length : Int) := by
            simp only [List.length_append, List.length_cons, List.length_nil] at hb ⊢
            unfold wrap64; omega
          have e2 : rd_T86 (q ++ [y] ++ x :: t) (q.length : Int) = y := by rw [← c_app]; exact rdE_at _ _ _
          have e3 : ((q.length : Int) < ((q ++ [y] ++ x :: t).length : Int)) = True := by rw [← c_app]; exact c_lt _ _ _
          have e4 : (((q ++ [y]).length : Int) > 0) = True := eq_true (by simp)
          simp only [e1, e2, e3, e4, c_nn, if_true, Bool.false_eq_true, if_false, List.getLast?_append, List.getLast?_singleton, Option.some_or, Option.map_some]
          by_cases h1 : y.f0 > x.f0
          · simp [h1, behindB, trip, show ¬ y.f0 < x.f0 by omega, show ¬ y.f0 = x.f0 by omega]
          · by_cases h2 : y.f0 = x.f0
            · by_cases h3 : y.f1 ≥ x.f1
              · simp [h2, h3, behindB, trip, show ¬ y.f1 < x.f1 by omega]
              · simp only [h1, h2, h3, if_true, if_false]
                simpa [h2, behindB, trip, show y.f1 < x.f1 by omega] using hn
            · simp only [h1, h2, if_false]
              simpa [h2, behindB, trip, show y.f0 < x.f0 by omega] using hn
      · simp
    have h0 := hj false
    have h1 := hj true
    have h2 := hj (!inB 1 100 x.f2)
    simp only [List.map_cons, edgesB_cons]
    simp only [trip] at h0 h1 h2 ⊢
    cases inB 0 (wrap64 (n - 1)) x.f0 <;> cases inB 0 (wrap64 (n - 1)) x.f1
    · simpa using h1
    · simpa using h1
    · simpa using h1
    · by_cases h3 : x.f0 ≥ x.f1
      · simp only [h3, if_true]; simpa [show ¬ x.f0 < x.f1 by omega] using h1
      · simp only [h3, if_true, if_false]
        simpa [show x.f0 < x.f1 by omega, Bool.and_assoc] using h2
theorem spec_GoodEdges_ev (n : Int) (l : List S86) (h : l.length ≤ 9223372036854775806) : Ev (fun k => spec_GoodEdges.f k n l) (goodE n (l.map trip)) := by
  unfold goodE spec_GoodEdges.f
  simpa using spec_GoodEdges_loop n l [] h

theorem spec_l1Rising_loop (lo hi : Int) (t : List Int) : ∀ p : List Int, (p ++ t).length ≤ 9223372036854775806 → Ev (fun k => spec_l1Rising.l0 k (p ++ t) lo hi (p ++ t) ((p ++ t).length : Int) (p.length : Int)) (allB lo hi t && chainB p.getLast? t) := by
  induction t with
  | nil =>
    intro p _
    refine ev_succ.1 ?_
    simp only [spec_l1Rising.l0, c_end, Int.lt_irrefl, if_false, ev_some]
    simp [allB_nil, chainB_nil]
  | cons x t ih =>
    intro p hb
    refine ev_succ.1 ?_
    have hn := ih (p ++ [x]) (by rwa [← c_app])
    simp only [spec_l1Rising.l0, c_lt, c_nn, c_rd, c_next _ _ _ hb, if_true, spec_l1In_eq, Option.bind_some, ev_ite, ev_some]
    rw [← c_app] at hn
    cases h1 : inB lo hi x
    · simp [h1, allB_cons]
    · rcases List.eq_nil_or_concat p with rfl | ⟨q, y, rfl⟩
      · simpa [h1, allB_cons, chainB_none] using hn
      · simp only [List.concat_eq_append] at *
        have e1 : wrap64 (((q ++ [y]).length : Int) - 1) = (q.length : Int) := by
          simp only [List.length_append, List.length_cons, List.length_nil] at hb ⊢
          unfold wrap64; omega
        have e2 : rd (q ++ [y] ++ x :: t) (q.length : Int) = y := by rw [← c_app]; exact c_rd _ _ _
        have e3 : ((q.length : Int) < ((q ++ [y] ++ x :: t).length : Int)) = True := by rw [← c_app]; exact c_lt _ _ _
        have e4 : (((q ++ [y]).length : Int) > 0) = True := eq_true (by simp)
        simp only [if_true, e1, e2, e3, e4, c_nn]
        by_cases h2 : y ≥ x
        · simp [h2, chainB_some, show ¬ y < x by omega]
        · simp only [h2, if_false]
          simpa [h1, allB_cons, chainB_some, show y < x by omega] using hn
theorem spec_l1Rising_ev (lo hi : Int) (l : List Int) (h : l.length ≤ 9223372036854775806) : Ev (fun k => spec_l1Rising.f k l lo hi) (allB lo hi l && chainB none l) := spec_l1Rising_loop lo hi l [] h

theorem spec_l17Place_ev (n : Int) (l : List S86) (d : List Int) (h : List S130) (x y : Int) (g : List Int) (hg : g.length ≤ 9223372036854775806) : Ev (fun k => spec_l17Place.f k n l d h x y g) (inB 1 99 x && (inB 0 (wrap64 (n - 1)) y && (allB 1 20 g && chainB none g))) := by
  unfold spec_l17Place.f
  simp only [spec_l1In_eq, Option.bind_some, ev_bind (spec_l1Rising_ev 1 20 g hg), ev_ite, ev_some]
  cases inB 1 99 x <;> cases inB 0 (wrap64 (n - 1)) y <;> simp

end Go.Proofs.Ytpohlcjkabojcaa.Pure
