/- What functions of the program answer, as plain functions: used by the laws of this claim. -/
import Derived.Test.YtfkjnpgpofcinaaB0
import Derived.Test.YtfkjnpgpofcinaaF3
import Derived.Test.YtfkjnpgpofcinaaB1
import Derived.Test.YtfkjnpgpofcinaaB2
import Derived.Test.YtfkjnpgpofcinaaQForest
import Derived.Test.YtfkjnpgpofcinaaQTree
namespace Go.Proofs.Ytfkjnpgpofcinaa.Pure
open Go.RowKit Go.Proofs.Ytfkjnpgpofcinaa.P Go.Proofs.YtfkjnpgpofcinaaW.PrintWords Go.Proofs.Ytfkjnpgpofcinaa.Q
set_option linter.unusedVariables false
set_option linter.unusedSimpArgs false

-- needs QForest
def queS (x : Int × Int) : S76 := ⟨x.2, x.1⟩
theorem rdHop_zero (x : S76) (t : List S76) : rd_T76 (x :: t) 0 = x := by simp [rd_T76]
theorem spec_l10Spread_loop1 (ps L : List Int) (s b : Int) (hL : L.length ≤ 1000) (r : List S76) (t : List Int) : ∀ (p : List Int) (o q : List S76), p ++ t = L → o.length + q.length + t.length + t.length ≤ 10000 →
    Ev (fun k => spec_l10Spread.l0 k ps (o ++ (t.filter fun k => decide (k ≠ b)).map fun k => hopS (s, k)) (q ++ (t.filter fun k => decide (k ≠ b)).map fun k => queS (k, s))) r → Ev (fun k => spec_l10Spread.l1 k ps o q L (L.length : Int) (p.length : Int) b s) r := by
  induction t with
  | nil =>
    intro p o q e _ h
    subst e
    refine ev_succ.1 ?_
    simp only [List.filter_nil, List.map_nil, List.append_nil] at h
    simp only [spec_l10Spread.l1, c_end, List.append_nil, Int.lt_irrefl, if_false]
    exact h
  | cons x t ih =>
    intro p o q e hl h
    have e1 : ((p.length : Int) < (L.length : Int)) = True := by rw [← e]; exact c_lt _ _ _
    have e2 : rd L (p.length : Int) = x := by rw [← e]; exact c_rd _ _ _
    have hpl : (p ++ x :: t).length ≤ 1000 := by rw [e]; exact hL
    simp only [List.length_cons] at hl
    have e3 : (o.length < 8796093022208) = True := eq_true (by omega)
    have e4 : (q.length < 8796093022208) = True := eq_true (by omega)
    refine ev_succ.1 ?_
    simp only [spec_l10Spread.l1, e1, e2, e3, e4, c_nn, if_true, c_next p x t (by omega), ev_ite]
    by_cases hk : x = b
    · rw [if_pos hk]
      rw [List.filter_cons_of_neg (by simp [hk])] at h
      exact ih (p ++ [x]) o q (by rw [← e]; simp) (by omega) h
    · rw [if_neg hk]
      rw [List.filter_cons_of_pos (by simp [hk])] at h
      refine ih (p ++ [x]) (o ++ [hopS (s, x)]) (q ++ [queS (x, s)]) (by rw [← e]; simp) (by simp; omega) ?_
      simpa using h
theorem spec_l10Spread_loop {ps : List Int} (F : Forest ps) (hb : ps.length ≤ 12) : ∀ (m : Nat) (q : List (Int × Int)) (o : List S76), QIn ps q → (allN ps q).length ≤ m → (allN ps q).length ≤ 100 → o.length + (allN ps q).length ≤ 100 + q.length → Ev (fun k => spec_l10Spread.l0 k ps o (q.map queS)) (o ++ (hopsF ps m q).map hopS) := by
  have hnil : ∀ o : List S76, Ev (fun k => spec_l10Spread.l0 k ps o (([] : List (Int × Int)).map queS)) o := by
    intro o
    refine ev_succ.1 ?_
    simp only [spec_l10Spread.l0, List.map_nil, List.length_nil, Int.natCast_zero, gt_iff_lt, Int.lt_irrefl, if_false]
    exact Ev.now _
  intro m
  induction m with
  | zero =>
    intro q o hq hm _ _
    cases q with
    | nil => simpa [hopsF] using hnil o
    | cons x t => have := (allN_next F (t := t) (hq x (by simp))).length_eq; simp at this; omega
  | succ m ih =>
    intro q o hq hm hc hd
    cases q with
    | nil => simpa [hopsF] using hnil o
    | cons x t =>
      have hx := hq x (by simp)
      have hl := (allN_next F (t := t) hx).length_eq
      simp only [List.length_cons] at hl hd
      have hj : (joinL ps x.1).length ≤ ps.length := joinFrom_length _ _ _ _
      have hn : (nexts ps x.2 x.1).length ≤ (joinL ps x.1).length := List.length_filter_le _ _
      have hal := hopsF_length F 0 _ (qin_next hq)
      simp only [hopsF, List.length_nil, Nat.zero_add, List.length_append, List.length_map] at hal
      refine ev_succ.1 ?_
      simp only [spec_l10Spread.l0, List.map_cons, List.length_cons, rdHop_zero, show ((((t.map queS).length + 1 : Nat) : Int) > 0) = True from eq_true (by omega), show (0 < (((t.map queS).length + 1 : Nat) : Int)) = True from eq_true (by omega), show (1 ≤ (((t.map queS).length + 1 : Nat) : Int)) = True from eq_true (by omega), if_true]
      simp only [show (queS x).f1 = x.1 from rfl, show (queS x).f0 = x.2 from rfl, ev_bind (spec_l10Joined_ev ps x.1 hx.1 hx.2 (by omega))]
      refine spec_l10Spread_loop1 ps (joinL ps x.1) x.1 x.2 (by omega) _ (joinL ps x.1) [] o _ rfl (by simp; omega) ?_
      have h := ih (t ++ (nexts ps x.2 x.1).map fun k => (k, x.1)) (o ++ ((nexts ps x.2 x.1).map fun k => (x.1, k)).map hopS) (qin_next hq) (by omega) (by omega) (by simp; omega)
      simp only [List.map_append, List.map_map, List.append_assoc, Function.comp_def, hopsF] at h ⊢
      exact h
theorem spec_l10Spread_ev {ps : List Int} (F : Forest ps) (hb : ps.length ≤ 12) (a : Int) (h0 : 0 ≤ a) (h1 : a < (ps.length : Int)) : Ev (fun k => spec_l10Spread.f k ps a) ((hopsF ps ps.length [(a, -1)]).map hopS) := by
  have hl := nodes_length F (-1) a h0 h1
  have e : allN ps [(a, -1)] = nodes ps (-1) a := by simp [allN]
  have h := spec_l10Spread_loop F hb ps.length [(a, -1)] [] (by intro x hx; rw [List.mem_singleton.1 hx]; exact ⟨h0, h1⟩) (by rw [e]; exact hl) (by rw [e]; omega) (by rw [e]; simp; omega)
  simpa [spec_l10Spread.f, queS] using h

/-- Someone behind a hop is of these. -/
def wantS (ps l : List Int) (h : S76) : Bool := (sv ps h.f0 h.f1).any fun x => hasB x l
/-- The hops from a. -/
def allH (ps : List Int) (a : Int) : List S76 := (hopsF ps ps.length [(a, -1)]).map hopS
theorem allH_in {ps : List Int} {a : Int} (h0 : 0 ≤ a) (h1 : a < (ps.length : Int)) : ∀ h ∈ allH ps a, (0 ≤ h.f0 ∧ h.f0 < (ps.length : Int)) ∧ 0 ≤ h.f1 ∧ h.f1 < (ps.length : Int) := by
  intro h hh
  obtain ⟨x, hx, rfl⟩ := List.mem_map.1 hh
  exact hopsF_in ps.length [(a, -1)] (by intro y hy; rw [List.mem_singleton.1 hy]; exact ⟨h0, h1⟩) x hx
theorem allH_length {ps : List Int} (F : Forest ps) {a : Int} (h0 : 0 ≤ a) (h1 : a < (ps.length : Int)) : (allH ps a).length + 1 ≤ ps.length := by
  have hl := nodes_length F (-1) a h0 h1
  have hal := hopsF_length F ps.length [(a, -1)] (by intro x hx; rw [List.mem_singleton.1 hx]; exact ⟨h0, h1⟩)
  have e : allN ps [(a, -1)] = nodes ps (-1) a := by simp [allN]
  rw [e] at hal
  simp only [allH, List.length_map, List.length_cons, List.length_nil] at hal ⊢
  omega
theorem spec_l14Hops_loop1 (ps l : List Int) (o : List S76) (L : List S76) (n i c d : Int) (hl : l.length ≤ 1000000000) (ho : o.length ≤ 1000) (r : List S76) (t : List Int) : ∀ (p : List Int) (b : Bool), (p ++ t).length ≤ 1000 →
    (if (b || t.any fun x => hasB x l) = true then Ev (fun k => spec_l14Hops.l0 k ps l (o ++ [⟨c, d⟩]) L n (wrap64 (i + 1))) r else Ev (fun k => spec_l14Hops.l0 k ps l o L n (wrap64 (i + 1))) r) → Ev (fun k => spec_l14Hops.l1 k ps l o b L n i (p ++ t) ((p ++ t).length : Int) (p.length : Int) c d) r := by
  induction t with
  | nil =>
    intro p b _ h
    refine ev_succ.1 ?_
    simp only [List.any_nil, Bool.or_false] at h
    simp only [spec_l14Hops.l1, c_end, List.append_nil, Int.lt_irrefl, if_false, ev_ite, show (o.length < 8796093022208) = True from eq_true (by omega), if_true]
    exact h
  | cons x t ih =>
    intro p b hp h
    refine ev_succ.1 ?_
    simp only [spec_l14Hops.l1, c_lt, c_nn, c_rd, c_next p x t (by omega), if_true, ev_ite, ev_bind (spec_l1Has_ev l x (by omega))]
    have hp2 : ((p ++ [x]) ++ t).length ≤ 1000 := by rwa [← c_app]
    rcases Bool.eq_false_or_eq_true b with hb | hb
    · subst hb
      rw [if_pos rfl]
      have := ih (p ++ [x]) true hp2 (by simpa using h)
      rwa [← c_app] at this
    · subst hb
      rw [if_neg (by simp)]
      have := ih (p ++ [x]) (hasB x l) hp2 (by simpa using h)
      rwa [← c_app] at this
theorem spec_l14Hops_loop {ps : List Int} (F : Forest ps) (hb : ps.length ≤ 12) (l : List Int) (hl : l.length ≤ 1000000000) (t : List S76) : ∀ (p o : List S76), (∀ h ∈ t, (0 ≤ h.f0 ∧ h.f0 < (ps.length : Int)) ∧ 0 ≤ h.f1 ∧ h.f1 < (ps.length : Int)) → (p ++ t).length ≤ 500 → o.length ≤ p.length → Ev (fun k => spec_l14Hops.l0 k ps l o (p ++ t) ((p ++ t).length : Int) (p.length : Int)) (o ++ t.filter (wantS ps l)) := by
  induction t with
  | nil =>
    intro p o _ _ _
    refine ev_succ.1 ?_
    simp only [spec_l14Hops.l0, c_end, List.append_nil, Int.lt_irrefl, if_false, ev_some, List.filter_nil]
  | cons x t ih =>
    intro p o hr hp ho
    have hx := hr x (by simp)
    have hpl : p.length ≤ 500 := by simp at hp; omega
    have hsl : (sv ps x.f0 x.f1).length ≤ 12 := by rw [sv_length]; exact Nat.le_trans (nodes_length F x.f0 x.f1 hx.2.1 hx.2.2) hb
    refine ev_succ.1 ?_
    simp only [spec_l14Hops.l0, c_lt, c_nn, rdHop_at, if_true, ev_bind (spec_l14Behind_ev F hb x.f0 x.f1 hx.2.1 hx.2.2)]
    refine spec_l14Hops_loop1 ps l o _ _ _ _ _ hl (by omega) _ (sv ps x.f0 x.f1) [] false (by simp; omega) ?_
    have hp2 : ((p ++ [x]) ++ t).length ≤ 500 := by rwa [← c_app]
    have hn0 := ih (p ++ [x]) o (fun h hh => hr h (by simp [hh])) hp2 (by simp; omega)
    have hn1 := ih (p ++ [x]) (o ++ [x]) (fun h hh => hr h (by simp [hh])) hp2 (by simp; omega)
    rw [← c_app] at hn0 hn1
    simp only [c_next p x t (by omega), Bool.false_or]
    have ew : wantS ps l x = (sv ps x.f0 x.f1).any fun x => hasB x l := rfl
    rw [← ew]
    rcases Bool.eq_false_or_eq_true (wantS ps l x) with h | h
    · rw [if_pos h, List.filter_cons_of_pos h]
      simpa using hn1
    · rw [if_neg (by simp [h]), List.filter_cons_of_neg (by simp [h])]
      exact hn0
theorem spec_l14Hops_ev {ps : List Int} (F : Forest ps) (hb : ps.length ≤ 12) (a : Int) (h0 : 0 ≤ a) (h1 : a < (ps.length : Int)) (l : List Int) (hl : l.length ≤ 1000000000) : Ev (fun k => spec_l14Hops.f k ps a l) ((allH ps a).filter (wantS ps l)) := by
  unfold spec_l14Hops.f
  simp only [ev_bind (spec_l10Spread_ev F hb a h0 h1)]
  have hal := allH_length F h0 h1
  exact spec_l14Hops_loop F hb l hl (allH ps a) [] [] (allH_in h0 h1) (by simp; omega) (by simp)

theorem spec_WantsOn_ev (ps : List Int) (a : Int) (l : List Int) (hb : ps.length ≤ 1000000000) (hl : l.length ≤ 1000000000) : Ev (fun k => spec_WantsOn.f k ps a l) (if (goodP ps && (inB 0 ((ps.length : Int) - 1) a && (allB 0 11 l && chainB none l))) = true then ((allH ps a).filter (wantS ps l), true) else ([], false)) := by
  unfold spec_WantsOn.f
  simp only [ev_bind (spec_l10Two_ev ps a a hb), ev_bind (spec_l14Wants_ev l (by omega)), Bool.and_self, ev_ite, ev_some]
  cases hg : goodP ps
  · simp
  · obtain ⟨F, hn⟩ := goodP_forest hg
    cases h : inB 0 ((ps.length : Int) - 1) a
    · simp
    · have hi := inB_iff.1 h
      rcases Bool.eq_false_or_eq_true (allB 0 11 l && chainB none l) with h2 | h2
      · simp only [h2, Bool.and_self, if_true, ev_bind (spec_l14Hops_ev F hn a (by omega) (by omega) l hl), ev_some]
      · simp [h2]

theorem impl_isSpots_eq (a : Int) : impl_isSpots.f a = some (inB 1 12 a) := by
  unfold impl_isSpots.f
  rw [impl_in_eq]; rfl

theorem impl_GoodParents_in (ps : List Int) (hb : ps.length ≤ 1000000000) (hall : allB (-1) ((ps.length : Int) - 1) ps = true) (x18 x19 : Int) (b : Bool) (hc : Ev (fun k => impl_GoodParents.l0 k ps x18 (wrap64 (x19 + 1))) b) : ∀ (d i : Nat) (a : Int), i + d = ps.length → a < (ps.length : Int) → Ev (fun k => impl_GoodParents.l1 k ps a x18 x19 (ps.length : Int) (i : Int)) (decide (upN ps d a < 0) && b) := by
  intro d
  induction d with
  | zero =>
    intro i a hi ha
    refine ev_succ.1 ?_
    simp only [impl_GoodParents.l1, show ((i : Int) < (ps.length : Int)) = False from eq_false (by omega), if_false, ev_ite, ev_some, upN]
    by_cases h0 : a ≥ 0
    · simp [h0, show ¬ a < 0 by omega]
    · simpa [h0, show a < 0 by omega] using hc
  | succ d ih =>
    intro i a hi ha
    refine ev_succ.1 ?_
    simp only [impl_GoodParents.l1, show ((i : Int) < (ps.length : Int)) = True from eq_true (by omega), if_true, ev_ite, ev_some, upN, w64 (n := (i : Int) + 1) (by omega) (by omega)]
    by_cases h0 : a ≥ 0
    · have hr := allB_iff.1 hall _ (rd_mem h0 ha)
      have h := ih (i + 1) (rd ps a) (by omega) (by omega)
      simp only [h0, ha, if_true, show (0 ≤ a) = True from eq_true h0]
      simpa using h
    · have h := ih (i + 1) a (by omega) ha
      simp only [h0, if_false]
      simpa using h
theorem impl_GoodParents_loop (ps : List Int) (hb : ps.length ≤ 1000000000) (hall : allB (-1) ((ps.length : Int) - 1) ps = true) : ∀ (d i : Nat), i + d = ps.length → Ev (fun k => impl_GoodParents.l0 k ps (ps.length : Int) (i : Int)) (upsB ps i d) := by
  intro d
  induction d with
  | zero =>
    intro i hi
    refine ev_succ.1 ?_
    simp only [impl_GoodParents.l0, show ((i : Int) < (ps.length : Int)) = False from eq_false (by omega), if_false, ev_some, upsB]
  | succ d ih =>
    intro i hi
    refine ev_succ.1 ?_
    simp only [impl_GoodParents.l0, show ((i : Int) < (ps.length : Int)) = True from eq_true (by omega), if_true, upsB]
    have hn := ih (i + 1) (by omega)
    have h := impl_GoodParents_in ps hb hall (ps.length : Int) (i : Int) _ (by rw [w64 (by omega) (by omega)]; exact hn) ps.length 0 (i : Int) (by omega) (by omega)
    exact h
theorem impl_GoodParents_ev (ps : List Int) (hb : ps.length ≤ 1000000000) : Ev (fun k => impl_GoodParents.f k ps) (goodP ps) := by
  unfold impl_GoodParents.f goodP
  simp only [impl_isSpots_eq, Option.bind_some, ev_bind (impl_allIn_ev (-1) (wrap64 ((ps.length : Int) - 1)) ps (by omega)), ev_ite]
  rw [w64 (n := (ps.length : Int) - 1) (by omega) (by omega)]
  have ht : Ev (fun k => impl_GoodParents.j0 k ps true) false := by
    refine ev_succ.1 ?_
    simp only [impl_GoodParents.j0, if_true]
    exact Ev.now _
  cases inB 1 12 (ps.length : Int)
  · simpa using ht
  · cases hall : allB (-1) ((ps.length : Int) - 1) ps
    · simpa using ht
    · have hf : Ev (fun k => impl_GoodParents.j0 k ps false) (upsB ps 0 ps.length) := by
        refine ev_succ.1 ?_
        simp only [impl_GoodParents.j0, Bool.false_eq_true, if_false]
        exact impl_GoodParents_loop ps hb hall ps.length 0 (by omega)
      simpa using hf

theorem impl_goodTree_ev (ps l : List Int) (hb : ps.length ≤ 1000000000) (hl : l.length ≤ 1000000000) : Ev (fun k => impl_goodTree.f k ps l) (goodP ps && allB 0 ((ps.length : Int) - 1) l) := by
  unfold impl_goodTree.f
  simp only [ev_bind (impl_GoodParents_ev ps hb), ev_bind (impl_allIn_ev 0 (wrap64 ((ps.length : Int) - 1)) l (by omega)), ev_ite, ev_some]
  rw [w64 (n := (ps.length : Int) - 1) (by omega) (by omega)]
  cases goodP ps <;> simp

theorem impl_rising_loop (t : List Int) : ∀ (p : List Int) (y : Int), (p ++ y :: t).length ≤ 9223372036854775806 → Ev (fun k => impl_rising.l0 k (p ++ y :: t) ((p ++ [y]).length : Int)) (chainB (some y) t) := by
  induction t with
  | nil =>
    intro p y _
    refine ev_succ.1 ?_
    simp only [impl_rising.l0, Int.lt_irrefl, if_false, ev_some]
    simp [chainB_nil]
  | cons x t ih =>
    intro p y hb
    refine ev_succ.1 ?_
    have hn := ih (p ++ [y]) x (by rwa [← c_app])
    have e1 : wrap64 (((p ++ [y]).length : Int) - 1) = (p.length : Int) := by
      simp only [List.length_append, List.length_cons, List.length_nil] at hb ⊢
      unfold wrap64; omega
    have e0 : p ++ y :: x :: t = (p ++ [y]) ++ x :: t := c_app _ _ _
    have e2 : rd (p ++ y :: x :: t) (p.length : Int) = y := c_rd _ _ _
    have e3 : ((p.length : Int) < ((p ++ y :: x :: t).length : Int)) = True := c_lt _ _ _
    have e4 : (((p ++ [y]).length : Int) < ((p ++ y :: x :: t).length : Int)) = True := by rw [e0]; exact c_lt _ _ _
    have e5 : rd (p ++ y :: x :: t) ((p ++ [y]).length : Int) = x := by rw [e0]; exact c_rd _ _ _
    have e6 := c_next (p ++ [y]) x t (by rwa [← e0])
    simp only [impl_rising.l0, e1, e2, e3, e4, e5, e6, c_nn, if_true, ev_ite, ev_some]
    by_cases h2 : y ≥ x
    · simp [h2, chainB_some, show ¬ y < x by omega]
    · simp only [h2, if_false]
      rw [e0]
      simpa [chainB_some, show y < x by omega] using hn
theorem impl_rising_ev (l : List Int) (h : l.length ≤ 9223372036854775806) : Ev (fun k => impl_rising.f k l) (chainB none l) := by
  unfold impl_rising.f
  cases l with
  | nil => refine ev_succ.1 ?_; simp [impl_rising.l0, ev_some, chainB_nil]
  | cons y t => simpa [chainB_none] using impl_rising_loop t [] y h

theorem impl_goodWants_ev (l : List Int) (h : l.length ≤ 9223372036854775806) : Ev (fun k => impl_goodWants.f k l) (allB 0 11 l && chainB none l) := by
  unfold impl_goodWants.f
  simp only [ev_bind (impl_rising_ev l h), ev_bind (impl_allIn_ev 0 11 l h), ev_ite, ev_some]
  cases chainB none l <;> simp

theorem slices_Index_int_int_loop (x1 : Int) (t : List Int) : ∀ p : List Int, (p ++ t).length ≤ 9223372036854775806 → Ev (fun k => slices_Index_int_int.l0 k (p ++ t) x1 ((p ++ t).length : Int) (p.length : Int)) (idxFrom x1 p.length t) := by
  induction t with
  | nil =>
    intro p _
    refine ev_succ.1 ?_
    simp only [slices_Index_int_int.l0, c_end, Int.lt_irrefl, if_false, ev_some, idxFrom]
  | cons x t ih =>
    intro p hb
    refine ev_succ.1 ?_
    have hn := ih (p ++ [x]) (by rwa [← c_app])
    rw [← c_app] at hn
    simp only [slices_Index_int_int.l0, c_lt, c_nn, c_rd, c_next p x t hb, if_true, ev_ite, ev_some, idxFrom]
    by_cases h : x1 = x
    · simp [h]
    · simpa [h] using hn
theorem slices_Index_int_int_ev (l : List Int) (x : Int) (h : l.length ≤ 9223372036854775806) : Ev (fun k => slices_Index_int_int.f k l x) (idxFrom x 0 l) := slices_Index_int_int_loop x l [] h

theorem slices_Contains_int_int_ev (l : List Int) (x : Int) (h : l.length ≤ 9223372036854775806) : Ev (fun k => slices_Contains_int_int.f k l x) (hasB x l) := by
  unfold slices_Contains_int_int.f
  simp only [ev_bind (slices_Index_int_int_ev l x h), ev_some]
  exact idxFrom_has x l 0

theorem impl_branches_loop (ps : List Int) (a : Int) (h0 : 0 ≤ a) (h1 : a < (ps.length : Int)) (hb : ps.length ≤ 1000000000) (t : List Int) : ∀ (p o : List Int), p ++ t = ps → o.length ≤ p.length → Ev (fun k => impl_branches.l0 k ps a o ps (ps.length : Int) (p.length : Int)) (o ++ joinFrom ps a p.length t) := by
  induction t with
  | nil =>
    intro p o e _
    subst e
    refine ev_succ.1 ?_
    simp only [impl_branches.l0, c_end, Int.lt_irrefl, if_false, ev_some, joinFrom, List.append_nil]
  | cons x t ih =>
    intro p o e ho
    have hl : (p ++ x :: t).length ≤ 1000000000 := by rw [e]; exact hb
    refine ev_succ.1 ?_
    have e1 : ((p.length : Int) < (ps.length : Int)) = True := by rw [← e]; exact c_lt _ _ _
    have e2 : rd ps (p.length : Int) = x := by rw [← e]; exact c_rd _ _ _
    have e3 : (0 ≤ a) = True := eq_true h0
    have e4 : (a < (ps.length : Int)) = True := eq_true h1
    have hpl : p.length ≤ 1000000000 := by simp at hl; omega
    have e5 : (o.length < 17592186044416) = True := eq_true (by omega)
    simp only [impl_branches.l0, e1, e2, e3, e4, e5, c_nn, if_true, ev_ite, ev_some, c_next p x t (by omega), joinFrom]
    have hn0 := ih (p ++ [x]) o (by rw [← e]; simp) (by simp; omega)
    have hn1 := ih (p ++ [x]) (o ++ [(p.length : Int)]) (by rw [← e]; simp) (by simp; omega)
    by_cases h2 : x = a
    · simpa [h2] using hn1
    · by_cases h3 : rd ps a = (p.length : Int)
      · simpa [h2, h3] using hn1
      · simpa [h2, h3] using hn0
theorem impl_branches_ev (ps : List Int) (a : Int) (h0 : 0 ≤ a) (h1 : a < (ps.length : Int)) (hb : ps.length ≤ 1000000000) : Ev (fun k => impl_branches.f k ps a) (joinL ps a) := by
  simpa [impl_branches.f, joinL] using impl_branches_loop ps a h0 h1 hb ps [] [] rfl (by simp)

end Go.Proofs.Ytfkjnpgpofcinaa.Pure
