/- What functions of the program answer, as plain functions: used by the laws of this claim. -/
import Derived.Test.YtfkjnpgpofcinaaB0
import Derived.Test.YtfkjnpgpofcinaaF3
import Derived.Test.YtfkjnpgpofcinaaB1
import Derived.Test.YtfkjnpgpofcinaaB2
import Derived.Test.YtfkjnpgpofcinaaQForest
import Derived.Test.YtfkjnpgpofcinaaQTree
namespace Go.Proofs.Ytfkjnpgpofcinaa.Pure
open Go.RowKit Go.Proofs.Ytfkjnpgpofcinaa.P Go.Proofs.YtfkjnpgpofcinaaW.PrintWords Go.Proofs.Ytfkjnpgpofcinaa.Q
set_option linter.unusedVariables false
set_option linter.unusedSimpArgs false

theorem impl_rising_loop (t : List Int) : ∀ (p : List Int) (y : Int), (p ++ y :: t).length ≤ 9223372036854775806 → Ev (fun k => impl_rising.l0 k (p ++ y :: t) ((p ++ [y]).length : Int)) (chainB (some y) t) := by
  induction t with
  | nil =>
    intro p y _
    refine ev_succ.1 ?_
    simp only [impl_rising.l0, Int.lt_irrefl, if_false, ev_some]
    simp [chainB_nil]
  | cons x t ih =>
    intro p y hb
    refine ev_succ.1 ?_
    have hn := ih (p ++ [y]) x (by rwa [← c_app])
    have e1 : wrap64 (((p ++ [y]).length : Int) - 1) = (p.length : Int) := by
      simp only [List.length_append, List.length_cons, List.length_nil] at hb ⊢
      unfold wrap64; omega
    have e0 : p ++ y :: x :: t = (p ++ [y]) ++ x :: t := c_app _ _ _
    have e2 : rd (p ++ y :: x :: t) (p.length : Int) = y := c_rd _ _ _
    have e3 : ((p.length : Int) < ((p ++ y :: x :: t).length : Int)) = True := c_lt _ _ _
    have e4 : (((p ++ [y]).length : Int) < ((p ++ y :: x :: t).length : Int)) = True := by rw [e0]; exact c_lt _ _ _
    have e5 : rd (p ++ y :: x :: t) ((p ++ [y]).length : Int) = x := by rw [e0]; exact c_rd _ _ _
    have e6 := c_next (p ++ [y]) x t (by rwa [← e0])
    simp only [impl_rising.l0, e1, e2, e3, e4, e5, e6, c_nn, if_true, ev_ite, ev_some]
    by_cases h2 : y ≥ x
    · simp [h2, chainB_some, show ¬ y < x by omega]
    · simp only [h2, if_false]
      rw [e0]
      simpa [chainB_some, show y < x by omega] using hn
theorem impl_rising_ev (l : List Int) (h : l.length ≤ 9223372036854775806) : Ev (fun k => impl_rising.f k l) (chainB none l) := by
  unfold impl_rising.f
  cases l with
  | nil => refine ev_succ.1 ?_; simp [impl_rising.l0, ev_some, chainB_nil]
  | cons y t => simpa [chainB_none] using impl_rising_loop t [] y h

theorem impl_goodWants_ev (l : List Int) (h : l.length ≤ 9223372036854775806) : Ev (fun k => impl_goodWants.f k l) (allB 0 11 l && chainB none l) := by
  unfold impl_goodWants.f
  simp only [ev_bind (impl_rising_ev l h), ev_bind (impl_allIn_ev 0 11 l h), ev_ite, ev_some]
  cases chainB none l <;> simp

theorem slices_Index_int_int_loop (x1 : Int) (t : List Int) : ∀ p : List Int, (p ++ t).length ≤ 9223372036854775806 → Ev (fun k => slices_Index_int_int.l0 k (p ++ t) x1 ((p ++ t).length : Int) (p.length : Int)) (idxFrom x1 p.length t) := by
  induction t with
  | nil =>
    intro p _
    refine ev_succ.1 ?_
    simp only [slices_Index_int_int.l0, c_end, Int.lt_irrefl, if_false, ev_some, idxFrom]
  | cons x t ih =>
    intro p hb
    refine ev_succ.1 ?_
    have hn := ih (p ++ [x]) (by rwa [← c_app])
    rw [← c_app] at hn
    simp only [slices_Index_int_int.l0, c_lt, c_nn, c_rd, c_next p x t hb, if_true, ev_ite, ev_some, idxFrom]
    by_cases h : x1 = x
    · simp [h]
    · simpa [h] using hn
theorem slices_Index_int_int_ev (l : List Int) (x : Int) (h : l.length ≤ 9223372036854775806) : Ev (fun k => slices_Index_int_int.f k l x) (idxFrom x 0 l) := slices_Index_int_int_loop x l [] h

theorem slices_Contains_int_int_ev (l : List Int) (x : Int) (h : l.length ≤ 9223372036854775806) : Ev (fun k => slices_Contains_int_int.f k l x) (hasB x l) := by
  unfold slices_Contains_int_int.f
  simp only [ev_bind (slices_Index_int_int_ev l x h), ev_some]
  exact idxFrom_has x l 0

theorem impl_branches_loop (ps : List Int) (a : Int) (h0 : 0 ≤ a) (h1 : a < (ps.length : Int)) (hb : ps.length ≤ 1000000000) (t : List Int) : ∀ (p o : List Int), p ++ t = ps → o.length ≤ p.length → Ev (fun k => impl_branches.l0 k ps a o ps (ps.length : Int) (p.length : Int)) (o ++ joinFrom ps a p.length t) := by
  induction t with
  | nil =>
    intro p o e _
    subst e
    refine ev_succ.1 ?_
    simp only [impl_branches.l0, c_end, Int.lt_irrefl, if_false, ev_some, joinFrom, List.append_nil]
  | cons x t ih =>
    intro p o e ho
    have hl : (p ++ x :: t).length ≤ 1000000000 := by rw [e]; exact hb
    refine ev_succ.1 ?_
    have e1 : ((p.length : Int) < (ps.length : Int)) = True := by rw [← e]; exact c_lt _ _ _
    have e2 : rd ps (p.length : Int) = x := by rw [← e]; exact c_rd _ _ _
    have e3 : (0 ≤ a) = True := eq_true h0
    have e4 : (a < (ps.length : Int)) = True := eq_true h1
    have hpl : p.length ≤ 1000000000 := by simp at hl; omega
    have e5 : (o.length < 17592186044416) = True := eq_true (by omega)
    simp only [impl_branches.l0, e1, e2, e3, e4, e5, c_nn, if_true, ev_ite, ev_some, c_next p x t (by omega), joinFrom]
    have hn0 := ih (p ++ [x]) o (by rw [← e]; simp) (by simp; omega)
    have hn1 := ih (p ++ [x]) (o ++ [(p.length : Int)]) (by rw [← e]; simp) (by simp; omega)
    by_cases h2 : x = a
    · simpa [h2] using hn1
    · by_cases h3 : rd ps a = (p.length : Int)
      · simpa [h2, h3] using hn1
      · simpa [h2, h3] using hn0
theorem impl_branches_ev (ps : List Int) (a : Int) (h0 : 0 ≤ a) (h1 : a < (ps.length : Int)) (hb : ps.length ≤ 1000000000) : Ev (fun k => impl_branches.f k ps a) (joinL ps a) := by
  simpa [impl_branches.f, joinL] using impl_branches_loop ps a h0 h1 hb ps [] [] rfl (by simp)

-- needs QForest
def gotS (x : Int × Int) : S138 := ⟨x.1, x.2⟩
theorem rdGot_zero (x : S138) (t : List S138) : rd_T138 (x :: t) 0 = x := by simp [rd_T138]
theorem impl_spread_loop1 (ps L : List Int) (s b : Int) (hL : L.length ≤ 1000) (r : List S76) (t : List Int) : ∀ (p : List Int) (o : List S76) (q : List S138), p ++ t = L → 1 ≤ q.length → o.length + q.length + t.length + t.length ≤ 10000 →
    Ev (fun k => impl_spread.l0 k ps (o ++ (t.filter fun k => decide (k ≠ b)).map fun k => hopS (s, k)) ((q ++ (t.filter fun k => decide (k ≠ b)).map fun k => gotS (k, s)).drop 1)) r → Ev (fun k => impl_spread.l1 k ps o q L (L.length : Int) (p.length : Int) s b) r := by
  induction t with
  | nil =>
    intro p o q e hq _ h
    subst e
    refine ev_succ.1 ?_
    simp only [List.filter_nil, List.map_nil, List.append_nil] at h
    simp only [impl_spread.l1, c_end, List.append_nil, Int.lt_irrefl, if_false, show (1 ≤ (q.length : Int)) = True from eq_true (by omega), if_true]
    exact h
  | cons x t ih =>
    intro p o q e hq hl h
    have e1 : ((p.length : Int) < (L.length : Int)) = True := by rw [← e]; exact c_lt _ _ _
    have e2 : rd L (p.length : Int) = x := by rw [← e]; exact c_rd _ _ _
    have hpl : (p ++ x :: t).length ≤ 1000 := by rw [e]; exact hL
    simp only [List.length_cons] at hl
    have e3 : (o.length < 8796093022208) = True := eq_true (by omega)
    have e4 : (q.length < 8796093022208) = True := eq_true (by omega)
    refine ev_succ.1 ?_
    simp only [impl_spread.l1, e1, e2, e3, e4, c_nn, if_true, c_next p x t (by omega), ev_ite]
    by_cases hk : x = b
    · rw [if_pos hk]
      rw [List.filter_cons_of_neg (by simp [hk])] at h
      exact ih (p ++ [x]) o q (by rw [← e]; simp) hq (by omega) h
    · rw [if_neg hk]
      rw [List.filter_cons_of_pos (by simp [hk])] at h
      refine ih (p ++ [x]) (o ++ [hopS (s, x)]) (q ++ [gotS (x, s)]) (by rw [← e]; simp) (by simp) (by simp; omega) ?_
      simpa using h
theorem impl_spread_loop {ps : List Int} (F : Forest ps) (hb : ps.length ≤ 12) : ∀ (m : Nat) (q : List (Int × Int)) (o : List S76), QIn ps q → (allN ps q).length ≤ m → (allN ps q).length ≤ 100 → o.length + (allN ps q).length ≤ 100 + q.length → Ev (fun k => impl_spread.l0 k ps o (q.map gotS)) (o ++ (hopsF ps m q).map hopS) := by
  have hnil : ∀ o : List S76, Ev (fun k => impl_spread.l0 k ps o (([] : List (Int × Int)).map gotS)) o := by
    intro o
    refine ev_succ.1 ?_
    simp only [impl_spread.l0, List.map_nil, List.length_nil, Int.natCast_zero, gt_iff_lt, Int.lt_irrefl, if_false]
    exact Ev.now _
  intro m
  induction m with
  | zero =>
    intro q o hq hm _ _
    cases q with
    | nil => simpa [hopsF] using hnil o
    | cons x t => have := (allN_next F (t := t) (hq x (by simp))).length_eq; simp at this; omega
  | succ m ih =>
    intro q o hq hm hc hd
    cases q with
    | nil => simpa [hopsF] using hnil o
    | cons x t =>
      have hx := hq x (by simp)
      have hl := (allN_next F (t := t) hx).length_eq
      simp only [List.length_cons] at hl hd
      have hj : (joinL ps x.1).length ≤ ps.length := joinFrom_length _ _ _ _
      have hn : (nexts ps x.2 x.1).length ≤ (joinL ps x.1).length := List.length_filter_le _ _
      have hal := hopsF_length F 0 _ (qin_next hq)
      simp only [hopsF, List.length_nil, Nat.zero_add, List.length_append, List.length_map] at hal
      refine ev_succ.1 ?_
      simp only [impl_spread.l0, List.map_cons, List.length_cons, rdGot_zero, show ((((t.map gotS).length + 1 : Nat) : Int) > 0) = True from eq_true (by omega), show (0 < (((t.map gotS).length + 1 : Nat) : Int)) = True from eq_true (by omega), if_true]
      simp only [show (gotS x).f0 = x.1 from rfl, show (gotS x).f1 = x.2 from rfl, ev_bind (impl_branches_ev ps x.1 hx.1 hx.2 (by omega))]
      refine impl_spread_loop1 ps (joinL ps x.1) x.1 x.2 (by omega) _ (joinL ps x.1) [] o (gotS x :: t.map gotS) rfl (by simp) (by simp; omega) ?_
      have h := ih (t ++ (nexts ps x.2 x.1).map fun k => (k, x.1)) (o ++ ((nexts ps x.2 x.1).map fun k => (x.1, k)).map hopS) (qin_next hq) (by omega) (by omega) (by simp; omega)
      simp only [List.map_append, List.map_map, List.append_assoc, Function.comp_def, hopsF, List.cons_append, List.drop_succ_cons, List.drop_zero] at h ⊢
      exact h
theorem impl_spread_ev {ps : List Int} (F : Forest ps) (hb : ps.length ≤ 12) (a : Int) (h0 : 0 ≤ a) (h1 : a < (ps.length : Int)) : Ev (fun k => impl_spread.f k ps a) ((hopsF ps ps.length [(a, -1)]).map hopS) := by
  have hl := nodes_length F (-1) a h0 h1
  have e : allN ps [(a, -1)] = nodes ps (-1) a := by simp [allN]
  have h := impl_spread_loop F hb ps.length [(a, -1)] [] (by intro x hx; rw [List.mem_singleton.1 hx]; exact ⟨h0, h1⟩) (by rw [e]; exact hl) (by rw [e]; omega) (by rw [e]; simp; omega)
  simpa [impl_spread.f, gotS] using h

-- needs QTree
theorem slices_Sort_int_int_eq (l : List Int) (h : l.length ≤ 1000000000) : slices_Sort_int_int.f l = some (l.mergeSort fun x y => decide (x ≤ y)) := by
  unfold slices_Sort_int_int.f
  rw [if_pos (by omega)]

theorem impl_behind_loop (a n : Int) (t : List S76) : ∀ (p : List S76) (o : List Int), o.length + t.length ≤ 100000 → (p ++ t).length ≤ 100000 → Ev (fun k => impl_behind.l0 k a n o (p ++ t) ((p ++ t).length : Int) (p.length : Int)) ((bhF n a o (t.map hopP)).mergeSort fun x y => decide (x ≤ y)) := by
  induction t with
  | nil =>
    intro p o hl hp
    simp only [List.append_nil] at hp
    refine ev_succ.1 ?_
    simp only [impl_behind.l0, c_end, List.append_nil, Int.lt_irrefl, if_false, slices_Sort_int_int_eq o (by omega), Option.bind_some, ev_some, List.map_nil, bhF]
  | cons x t ih =>
    intro p o hl hp
    simp only [List.length_cons] at hl
    have hn0 := ih (p ++ [x]) o (by omega) (by rwa [← c_app])
    have hn1 := ih (p ++ [x]) (o ++ [x.f1]) (by simp only [List.length_append, List.length_cons, List.length_nil]; omega) (by rwa [← c_app])
    rw [← c_app] at hn0 hn1
    have e3 : (o.length < 17592186044416) = True := eq_true (by omega)
    have hj : Ev (fun k => impl_behind.j1 k a n o (p ++ x :: t) ((p ++ x :: t).length : Int) (p.length : Int) false x.f0 x.f1) ((if hasB x.f0 o = true then bhF n a (o ++ [x.f1]) (t.map hopP) else bhF n a o (t.map hopP)).mergeSort fun x y => decide (x ≤ y)) := by
      refine ev_succ.1 ?_
      simp only [impl_behind.j1, Bool.false_eq_true, if_false, ev_bind (slices_Contains_int_int_ev o x.f0 (by omega)), e3, if_true, c_next p x t (by omega), ev_ite]
      rcases Bool.eq_false_or_eq_true (hasB x.f0 o) with h | h
      · simpa [h] using hn1
      · simpa [h] using hn0
    have hj2 : Ev (fun k => impl_behind.j1 k a n o (p ++ x :: t) ((p ++ x :: t).length : Int) (p.length : Int) true x.f0 x.f1) ((bhF n a o (t.map hopP)).mergeSort fun x y => decide (x ≤ y)) := by
      refine ev_succ.1 ?_
      simp only [impl_behind.j1, if_true, c_next p x t (by omega)]
      exact hn0
    refine ev_succ.1 ?_
    simp only [impl_behind.l0, c_lt, c_nn, rdHop_at, if_true, ev_ite, List.map_cons, bhF, hopP]
    by_cases h1 : x.f0 = n
    · rw [if_pos h1]
      by_cases h2 : x.f1 = a
      · rw [if_pos ⟨h1, h2⟩, show (x.f1 == a) = true from by simp [h2]]
        exact hj2
      · rw [if_neg (fun h => h2 h.2), show (x.f1 == a) = false from by simp [h2]]
        exact hj
    · rw [if_neg h1, if_neg (fun h => h1 h.1)]
      exact hj
theorem impl_behind_ev {ps : List Int} (F : Forest ps) (hb : ps.length ≤ 12) (a n : Int) (h0 : 0 ≤ n) (h1 : n < (ps.length : Int)) : Ev (fun k => impl_behind.f k ps a n) (sv ps a n) := by
  unfold impl_behind.f
  simp only [ev_bind (impl_spread_ev F hb n h0 h1)]
  have hl := nodes_length F (-1) n h0 h1
  have hal := hopsF_length F ps.length [(n, -1)] (by intro x hx; rw [List.mem_singleton.1 hx]; exact ⟨h0, h1⟩)
  have e : allN ps [(n, -1)] = nodes ps (-1) n := by simp [allN]
  rw [e] at hal
  have h := impl_behind_loop a n ((hopsF ps ps.length [(n, -1)]).map hopS) [] [n] (by simp; omega) (by simp; omega)
  have hp := behind_perm F (at_ := a) h0 h1 ps.length (Nat.le_refl _)
  have hm : ((hopsF ps ps.length [(n, -1)]).map hopS).map hopP = hopsF ps ps.length [(n, -1)] := by
    rw [List.map_map]
    exact List.map_id _
  rw [hm] at h
  have hs : ((bhF n a [n] (hopsF ps ps.length [(n, -1)])).mergeSort fun x y => decide (x ≤ y)) = sv ps a n := by
    have h2 := rowB_perm ps a n (joinL ps n) [n] (by simp) (by have := nodes_nodup F a n h0 h1; rw [nodes_eq F h0 h1] at this; exact this)
    rw [rowB_sv F a n h0 h1] at h2
    exact sort_of_perm (hp.trans (sv_perm ps a n).symm) h2.1
  rw [hs] at h
  exact h

end Go.Proofs.Ytfkjnpgpofcinaa.Pure
