/- What functions of the program answer, as plain functions: used by the laws of this claim. -/
import Derived.Test.YtfkjnpgpofcinaaB0
import Derived.Test.YtfkjnpgpofcinaaF2
import Derived.Test.YtfkjnpgpofcinaaB1
import Derived.Test.YtfkjnpgpofcinaaQForest
import Derived.Test.YtfkjnpgpofcinaaQTree
namespace Go.Proofs.Ytfkjnpgpofcinaa.Pure
open Go.RowKit Go.Proofs.Ytfkjnpgpofcinaa.P Go.Proofs.YtfkjnpgpofcinaaW.PrintWords Go.Proofs.Ytfkjnpgpofcinaa.Q
set_option linter.unusedVariables false
set_option linter.unusedSimpArgs false

theorem spec_GoodParents_in (ps : List Int) (hb : ps.length ≤ 1000000000) (x10 : List Int) (x11 x12 : Int) (b : Bool) (hc : Ev (fun k => spec_GoodParents.l0 k ps (ps.length : Int) x10 x11 (wrap64 (x12 + 1))) b) : ∀ (d s : Nat) (a : Int), s + d = ps.length → a < (ps.length : Int) → Ev (fun k => spec_GoodParents.l1 k ps (ps.length : Int) (s : Int) a x10 x11 x12) (endsB ps ((ps.length : Int) - 1) d a && b) := by
  intro d
  induction d with
  | zero =>
    intro s a hs ha
    refine ev_succ.1 ?_
    simp only [spec_GoodParents.l1, w64 (n := (s : Int) + 1) (by omega) (by omega), show ((s : Int) + 1 > (ps.length : Int)) = True from eq_true (by omega), if_true, ev_ite, ev_some, endsB]
    by_cases h0 : a ≥ 0
    · simp [h0, show ¬ a < 0 by omega]
    · simpa [h0, show a < 0 by omega] using hc
  | succ d ih =>
    intro s a hs ha
    refine ev_succ.1 ?_
    simp only [spec_GoodParents.l1, w64 (n := (s : Int) + 1) (by omega) (by omega), w64 (n := (ps.length : Int) - 1) (by omega) (by omega), show ((s : Int) + 1 > (ps.length : Int)) = False from eq_false (by omega), if_false, ev_ite, ev_some, endsB, spec_l1In_eq, Option.bind_some]
    by_cases h0 : a ≥ 0
    · simp only [h0, ha, if_true, show (0 ≤ a) = True from eq_true h0]
      cases hi : inB (-1) ((ps.length : Int) - 1) (rd ps a)
      · simp
      · have := inB_iff.1 hi
        have h := ih (s + 1) (rd ps a) (by omega) (by omega)
        simpa using h
    · simpa [h0] using hc
theorem spec_GoodParents_loop (ps : List Int) (hb : ps.length ≤ 1000000000) (t : List Int) : ∀ p : List Int, p ++ t = ps → Ev (fun k => spec_GoodParents.l0 k ps (ps.length : Int) ps (ps.length : Int) (p.length : Int)) (goodFrom ps ((ps.length : Int) - 1) p.length t && inB 1 12 (ps.length : Int)) := by
  induction t with
  | nil =>
    intro p e
    subst e
    refine ev_succ.1 ?_
    simp only [spec_GoodParents.l0, c_end, Int.lt_irrefl, if_false, ev_some, spec_l1In_eq, Option.bind_some, goodFrom, Bool.true_and]
  | cons x t ih =>
    intro p e
    have hl : (p ++ x :: t).length ≤ 1000000000 := by rw [e]; exact hb
    have hn := ih (p ++ [x]) (by rw [← e]; simp)
    refine ev_succ.1 ?_
    have e1 : ((p.length : Int) < (ps.length : Int)) = True := by rw [← e]; exact c_lt _ _ _
    have e2 : rd ps (p.length : Int) = x := by rw [← e]; exact c_rd _ _ _
    simp only [spec_GoodParents.l0, e1, e2, c_nn, if_true, spec_l1In_eq, Option.bind_some, ev_ite, ev_some, w64 (n := (ps.length : Int) - 1) (by omega) (by omega), goodFrom]
    cases inB (-1) ((ps.length : Int) - 1) x
    · simp
    · have h := spec_GoodParents_in ps hb ps (ps.length : Int) (p.length : Int) _ (by rw [c_next p x t (by omega)]; exact hn) ps.length 0 (p.length : Int) (by omega) (by rw [← e]; simp; omega)
      simpa [Bool.and_assoc] using h
theorem spec_GoodParents_ev (ps : List Int) (hb : ps.length ≤ 1000000000) : Ev (fun k => spec_GoodParents.f k ps) (goodP ps) := by
  have h := spec_GoodParents_loop ps hb ps [] rfl
  rw [show ([] : List Int).length = 0 from rfl, goodFrom_eq, Bool.and_comm] at h
  exact h

theorem spec_l10Two_ev (ps : List Int) (a b : Int) (hb : ps.length ≤ 1000000000) : Ev (fun k => spec_l10Two.f k ps a b) (goodP ps && (inB 0 ((ps.length : Int) - 1) a && inB 0 ((ps.length : Int) - 1) b)) := by
  unfold spec_l10Two.f
  simp only [ev_bind (spec_GoodParents_ev ps hb), spec_l1In_eq, Option.bind_some, ev_ite, ev_some, w64 (n := (ps.length : Int) - 1) (by omega) (by omega)]
  cases goodP ps <;> cases inB 0 ((ps.length : Int) - 1) a <;> simp

theorem spec_l1Rising_loop (lo hi : Int) (t : List Int) : ∀ p : List Int, (p ++ t).length ≤ 9223372036854775806 → Ev (fun k => spec_l1Rising.l0 k (p ++ t) lo hi (p ++ t) ((p ++ t).length : Int) (p.length : Int)) (allB lo hi t && chainB p.getLast? t) := by
  induction t with
  | nil =>
    intro p _
    refine ev_succ.1 ?_
    simp only [spec_l1Rising.l0, c_end, Int.lt_irrefl, if_false, ev_some]
    simp [allB_nil, chainB_nil]
  | cons x t ih =>
    intro p hb
    refine ev_succ.1 ?_
    have hn := ih (p ++ [x]) (by rwa [← c_app])
    simp only [spec_l1Rising.l0, c_lt, c_nn, c_rd, c_next _ _ _ hb, if_true, spec_l1In_eq, Option.bind_some, ev_ite, ev_some]
    rw [← c_app] at hn
    cases h1 : inB lo hi x
    · simp [h1, allB_cons]
    · rcases List.eq_nil_or_concat p with rfl | ⟨q, y, rfl⟩
      · simpa [h1, allB_cons, chainB_none] using hn
      · simp only [List.concat_eq_append] at *
        have e1 : wrap64 (((q ++ [y]).length : Int) - 1) = (q.length : Int) := by
          simp only [List.length_append, List.length_cons, List.length_nil] at hb ⊢
          unfold wrap64; omega
        have e2 : rd (q ++ [y] ++ x :: t) (q.length : Int) = y := by rw [← c_app]; exact c_rd _ _ _
        have e3 : ((q.length : Int) < ((q ++ [y] ++ x :: t).length : Int)) = True := by rw [← c_app]; exact c_lt _ _ _
        have e4 : (((q ++ [y]).length : Int) > 0) = True := eq_true (by simp)
        simp only [if_true, e1, e2, e3, e4, c_nn]
        by_cases h2 : y ≥ x
        · simp [h2, chainB_some, show ¬ y < x by omega]
        · simp only [h2, if_false]
          simpa [h1, allB_cons, chainB_some, show y < x by omega] using hn
theorem spec_l1Rising_ev (lo hi : Int) (l : List Int) (h : l.length ≤ 9223372036854775806) : Ev (fun k => spec_l1Rising.f k l lo hi) (allB lo hi l && chainB none l) := spec_l1Rising_loop lo hi l [] h

theorem spec_l14Wants_ev (l : List Int) (h : l.length ≤ 9223372036854775806) : Ev (fun k => spec_l14Wants.f k l) (allB 0 11 l && chainB none l) := by
  unfold spec_l14Wants.f
  simp only [ev_bind (spec_l1Rising_ev 0 11 l h), ev_some]

theorem spec_l1Has_loop (x1 : Int) (t : List Int) : ∀ p : List Int, (p ++ t).length ≤ 9223372036854775806 → Ev (fun k => spec_l1Has.l0 k x1 (p ++ t) ((p ++ t).length : Int) (p.length : Int)) (hasB x1 t) := by
  induction t with
  | nil =>
    intro p _
    refine ev_succ.1 ?_
    simp only [spec_l1Has.l0, c_end, Int.lt_irrefl, if_false, ev_some]
    rfl
  | cons x t ih =>
    intro p hb
    refine ev_succ.1 ?_
    have hn := ih (p ++ [x]) (by rwa [← c_app])
    rw [← c_app] at hn
    simp only [spec_l1Has.l0, c_lt, c_nn, c_rd, c_next p x t hb, if_true, ev_ite, ev_some]
    by_cases h : x = x1
    · simp [h, hasB]
    · simpa [h, hasB, show ¬ x1 = x from fun h2 => h h2.symm] using hn
theorem spec_l1Has_ev (l : List Int) (x : Int) (h : l.length ≤ 9223372036854775806) : Ev (fun k => spec_l1Has.f k l x) (hasB x l) := spec_l1Has_loop x l [] h

-- needs QTree
theorem spec_l1Put_loop (n : Int) (t : List Int) : ∀ p : List Int, (p ++ t).length ≤ 8796093022206 → Ev (fun k => spec_l1Put.l0 k (p ++ t) n (p.length : Int)) (p ++ putV t n) := by
  induction t with
  | nil =>
    intro p hb
    refine ev_succ.1 ?_
    rw [List.append_nil]
    have e1 : ((p.length : Int) ≤ (p.length : Int)) = True := eq_true (Int.le_refl _)
    have e2 : p.take ((p.length : Int)).toNat = p := by simp
    have e3 : p.drop ((p.length : Int)).toNat = [] := by simp
    have e4 : (p.length < 17592186044416) = True := eq_true (by simp at hb; omega)
    have e5 : ((p ++ [n]).length < 17592186044416) = True := eq_true (by simp at hb ⊢; omega)
    simp only [spec_l1Put.l0, c_end, Int.lt_irrefl, if_false, Option.bind_some, c_nn, if_true, e1, e2, e3, e4, e5, List.nil_append, List.length_nil, Nat.zero_add, Nat.add_zero, List.append_nil, ev_some, putV]
  | cons x t ih =>
    intro p hb
    refine ev_succ.1 ?_
    have e1 : ((p.length : Int) ≤ ((p ++ x :: t).length : Int)) = True := eq_true (by simp; omega)
    have e2 : (p ++ x :: t).take ((p.length : Int)).toNat = p := by simp
    have e3 : (p ++ x :: t).drop ((p.length : Int)).toNat = x :: t := by simp
    have e4 : (p.length < 17592186044416) = True := eq_true (by simp at hb; omega)
    have e5 : ((p ++ [n]).length + (x :: t).length < 17592186044416) = True := eq_true (by simp at hb ⊢; omega)
    simp only [spec_l1Put.l0, c_lt, c_nn, c_rd, c_next p x t (by omega), Option.bind_some, if_true, e1, e2, e3, e4, e5, List.nil_append, List.length_nil, Nat.zero_add, ev_ite, ev_some]
    have h1 := ih (p ++ [x]) (by rwa [← c_app])
    rw [← c_app] at h1
    by_cases h : x < n
    · simpa [h, putV] using h1
    · by_cases h2 : x = n <;> simp [h, h2, putV]
theorem spec_l1Put_ev (l : List Int) (n : Int) (h : l.length ≤ 8796093022206) : Ev (fun k => spec_l1Put.f k l n) (putV l n) := spec_l1Put_loop n l [] h

theorem spec_l10Joined_loop (ps : List Int) (a : Int) (h0 : 0 ≤ a) (h1 : a < (ps.length : Int)) (hb : ps.length ≤ 1000000000) (t : List Int) : ∀ (p o : List Int), p ++ t = ps → o.length ≤ p.length → (∀ y ∈ o, y < (p.length : Int)) → Ev (fun k => spec_l10Joined.l0 k ps a o ps (ps.length : Int) (p.length : Int)) (o ++ joinFrom ps a p.length t) := by
  induction t with
  | nil =>
    intro p o e _ _
    subst e
    refine ev_succ.1 ?_
    simp only [spec_l10Joined.l0, c_end, Int.lt_irrefl, if_false, ev_some, joinFrom, List.append_nil]
  | cons x t ih =>
    intro p o e ho hy
    have hl : (p ++ x :: t).length ≤ 1000000000 := by rw [e]; exact hb
    refine ev_succ.1 ?_
    have e1 : ((p.length : Int) < (ps.length : Int)) = True := by rw [← e]; exact c_lt _ _ _
    have e2 : rd ps (p.length : Int) = x := by rw [← e]; exact c_rd _ _ _
    have e3 : (0 ≤ a) = True := eq_true h0
    have e4 : (a < (ps.length : Int)) = True := eq_true h1
    have hpl : p.length ≤ 1000000000 := by simp at hl; omega
    have hput := spec_l1Put_ev o (p.length : Int) (by omega)
    rw [putV_last _ _ hy] at hput
    simp only [spec_l10Joined.l0, e1, e2, e3, e4, c_nn, if_true, ev_ite, ev_some, ev_bind hput, c_next p x t (by omega), joinFrom]
    have hn0 := ih (p ++ [x]) o (by rw [← e]; simp) (by simp; omega) (by intro y hyo; have := hy y hyo; simp; omega)
    have hn1 := ih (p ++ [x]) (o ++ [(p.length : Int)]) (by rw [← e]; simp) (by simp; omega) (by
      intro y hyo
      rcases List.mem_append.1 hyo with hyo | hyo
      · have := hy y hyo; simp; omega
      · rw [List.mem_singleton.1 hyo]; simp; omega)
    by_cases h2 : x = a
    · simpa [h2] using hn1
    · by_cases h3 : rd ps a = (p.length : Int)
      · simpa [h2, h3] using hn1
      · simpa [h2, h3] using hn0
theorem spec_l10Joined_ev (ps : List Int) (a : Int) (h0 : 0 ≤ a) (h1 : a < (ps.length : Int)) (hb : ps.length ≤ 1000000000) : Ev (fun k => spec_l10Joined.f k ps a) (joinL ps a) := by
  simpa [spec_l10Joined.f, joinL] using spec_l10Joined_loop ps a h0 h1 hb ps [] [] rfl (by simp) (by simp)

-- needs QForest
/-- All behind a from b, rising. -/
def sv (ps : List Int) (b a : Int) : List Int := (nodes ps b a).mergeSort fun x y => decide (x ≤ y)
theorem sv_length (ps : List Int) (b a : Int) : (sv ps b a).length = (nodes ps b a).length := by simp [sv]
theorem sv_perm (ps : List Int) (b a : Int) : (sv ps b a).Perm (nodes ps b a) := List.mergeSort_perm _ _
/-- One row of branches put in, each with all behind it. -/
def rowB (ps : List Int) (b a : Int) : List Int → List Int → List Int
  | o, [] => o
  | o, k :: t => if k = b then rowB ps b a o t else rowB ps b a ((sv ps a k).foldl putV o) t
theorem rowB_perm (ps : List Int) (b a : Int) : ∀ (t o : List Int), o.Pairwise (fun x y => x < y) → (o ++ (t.filter fun k => decide (k ≠ b)).flatMap (nodes ps a)).Nodup → (rowB ps b a o t).Pairwise (fun x y => x < y) ∧ (rowB ps b a o t).Perm (o ++ (t.filter fun k => decide (k ≠ b)).flatMap (nodes ps a))
  | [], o, h, _ => by simp [rowB, h]
  | k :: t, o, h, hn => by
    unfold rowB
    by_cases hk : k = b
    · rw [if_pos hk]
      rw [List.filter_cons_of_neg (by simp [hk])] at hn ⊢
      exact rowB_perm ps b a t o h hn
    · rw [if_neg hk]
      rw [List.filter_cons_of_pos (by simp [hk]), List.flatMap_cons, ← List.append_assoc] at hn ⊢
      have hp : (o ++ sv ps a k).Perm (o ++ nodes ps a k) := (sv_perm ps a k).append_left o
      obtain ⟨h1, h2⟩ := foldput (sv ps a k) o h (hp.nodup_iff.2 (List.nodup_append.1 hn).1)
      have h3 := (h2.trans hp).append_right ((t.filter fun k => decide (k ≠ b)).flatMap (nodes ps a))
      obtain ⟨h4, h5⟩ := rowB_perm ps b a t _ h1 (h3.nodup_iff.2 hn)
      exact ⟨h4, h5.trans h3⟩
theorem rowB_sv {ps : List Int} (F : Forest ps) (b a : Int) (h0 : 0 ≤ a) (h1 : a < (ps.length : Int)) : rowB ps b a [a] (joinL ps a) = sv ps b a := by
  have hn := nodes_nodup F b a h0 h1
  have e := nodes_eq F (b := b) h0 h1
  obtain ⟨h2, h3⟩ := rowB_perm ps b a (joinL ps a) [a] (by simp) (by rw [e] at hn; exact hn)
  unfold sv
  refine (sort_of_perm ?_ h2).symm
  rw [e]
  exact h3.symm
theorem spec_l14Behind_loop1 (ps : List Int) (b a : Int) (L : List Int) (n i : Int) (r : List Int) (t : List Int) : ∀ (p o : List Int), o.length + t.length ≤ 1000000 ∧ (p ++ t).length ≤ 1000000 → Ev (fun k => spec_l14Behind.l0 k ps b a (t.foldl putV o) L n (wrap64 (i + 1))) r → Ev (fun k => spec_l14Behind.l1 k ps b a o L n i (p ++ t) ((p ++ t).length : Int) (p.length : Int)) r := by
  induction t with
  | nil =>
    intro p o hl h
    refine ev_succ.1 ?_
    simp only [spec_l14Behind.l1, c_end, List.append_nil, Int.lt_irrefl, if_false]
    exact h
  | cons x t ih =>
    intro p o hl h
    simp only [List.length_append, List.length_cons] at hl
    have hp := putV_length x o
    refine ev_succ.1 ?_
    simp only [spec_l14Behind.l1, c_lt, c_nn, c_rd, c_next p x t (by simp; omega), if_true, ev_bind (spec_l1Put_ev o x (by omega))]
    have := ih (p ++ [x]) (putV o x) ⟨by omega, by simp; omega⟩ h
    rwa [← c_app] at this
theorem spec_l14Behind_loop {ps : List Int} (F : Forest ps) (hb : ps.length ≤ 12) (b a : Int) (L : List Int) (hL : L.length ≤ 12) (t : List Int) : ∀ (p o : List Int), p ++ t = L → (∀ k ∈ t, 0 ≤ k ∧ k < (ps.length : Int)) → (∀ k ∈ t, k ≠ b → Ev (fun q => spec_l14Behind.f q ps a k) (sv ps a k)) → o.length ≤ 1 + 12 * p.length → Ev (fun k => spec_l14Behind.l0 k ps b a o L (L.length : Int) (p.length : Int)) (rowB ps b a o t) := by
  induction t with
  | nil =>
    intro p o e _ _ _
    subst e
    refine ev_succ.1 ?_
    simp only [spec_l14Behind.l0, c_end, List.append_nil, Int.lt_irrefl, if_false, ev_some, rowB]
  | cons x t ih =>
    intro p o e hr hf ho
    have e1 : ((p.length : Int) < (L.length : Int)) = True := by rw [← e]; exact c_lt _ _ _
    have e2 : rd L (p.length : Int) = x := by rw [← e]; exact c_rd _ _ _
    have hpl : (p ++ x :: t).length ≤ 12 := by rw [e]; exact hL
    have hx := hr x (by simp)
    have hsl : (sv ps a x).length ≤ 12 := by rw [sv_length]; exact Nat.le_trans (nodes_length F a x hx.1 hx.2) hb
    have hfl : ∀ (l o : List Int), (l.foldl putV o).length ≤ o.length + l.length := by
      intro l
      induction l with
      | nil => intro o; simp
      | cons y l ih => intro o; have := ih (putV o y); have := putV_length y o; simp only [List.foldl_cons, List.length_cons]; omega
    have hfl := hfl (sv ps a x) o
    refine ev_succ.1 ?_
    simp only [spec_l14Behind.l0, e1, e2, c_nn, if_true, ev_ite, rowB]
    by_cases hk : x = b
    · simp only [hk, if_true, c_next p x t (by omega)]
      have := ih (p ++ [x]) o (by rw [← e]; simp) (fun k hk => hr k (by simp [hk])) (fun k hk => hf k (by simp [hk])) (by simp; omega)
      subst hk
      exact this
    · simp only [hk, if_false, ev_bind (hf x (by simp) hk)]
      have hq : p.length ≤ 12 := by simp at hpl; omega
      refine spec_l14Behind_loop1 ps b a L _ _ _ (sv ps a x) [] o (by simp; omega) ?_
      simp only [c_next p x t (by omega)]
      exact ih (p ++ [x]) _ (by rw [← e]; simp) (fun k hk => hr k (by simp [hk])) (fun k hk => hf k (by simp [hk])) (by simp; omega)
theorem spec_l14Behind_ev {ps : List Int} (F : Forest ps) (hb : ps.length ≤ 12) (b a : Int) (h0 : 0 ≤ a) (h1 : a < (ps.length : Int)) : Ev (fun k => spec_l14Behind.f k ps b a) (sv ps b a) := by
  refine walk_ind F (P := fun b a => Ev (fun k => spec_l14Behind.f k ps b a) (sv ps b a)) ?_ _ b a h0 h1 (Nat.le_refl _)
  intro b a h0 h1 ih
  refine ev_succ.1 ?_
  simp only [spec_l14Behind.f, ev_bind (spec_l10Joined_ev ps a h0 h1 (by omega))]
  rw [← rowB_sv F b a h0 h1]
  refine spec_l14Behind_loop F hb b a (joinL ps a) (Nat.le_trans (joinFrom_length _ _ _ _) hb) (joinL ps a) [] [a] rfl (fun k hk => ?_) (fun k hk hne => ?_) (by simp)
  · have := joinL_mem.1 hk; exact ⟨this.1, this.2.1⟩
  · exact ih k (nexts_mem.2 ⟨joinL_mem.1 hk, hne⟩)

theorem impl_isSpots_eq (a : Int) : impl_isSpots.f a = some (inB 1 12 a) := by
  unfold impl_isSpots.f
  rw [impl_in_eq]; rfl

theorem impl_GoodParents_in (ps : List Int) (hb : ps.length ≤ 1000000000) (hall : allB (-1) ((ps.length : Int) - 1) ps = true) (x18 x19 : Int) (b : Bool) (hc : Ev (fun k => impl_GoodParents.l0 k ps x18 (wrap64 (x19 + 1))) b) : ∀ (d i : Nat) (a : Int), i + d = ps.length → a < (ps.length : Int) → Ev (fun k => impl_GoodParents.l1 k ps a x18 x19 (ps.length : Int) (i : Int)) (decide (upN ps d a < 0) && b) := by
  intro d
  induction d with
  | zero =>
    intro i a hi ha
    refine ev_succ.1 ?_
    simp only [impl_GoodParents.l1, show ((i : Int) < (ps.length : Int)) = False from eq_false (by omega), if_false, ev_ite, ev_some, upN]
    by_cases h0 : a ≥ 0
    · simp [h0, show ¬ a < 0 by omega]
    · simpa [h0, show a < 0 by omega] using hc
  | succ d ih =>
    intro i a hi ha
    refine ev_succ.1 ?_
    simp only [impl_GoodParents.l1, show ((i : Int) < (ps.length : Int)) = True from eq_true (by omega), if_true, ev_ite, ev_some, upN, w64 (n := (i : Int) + 1) (by omega) (by omega)]
    by_cases h0 : a ≥ 0
    · have hr := allB_iff.1 hall _ (rd_mem h0 ha)
      have h := ih (i + 1) (rd ps a) (by omega) (by omega)
      simp only [h0, ha, if_true, show (0 ≤ a) = True from eq_true h0]
      simpa using h
    · have h := ih (i + 1) a (by omega) ha
      simp only [h0, if_false]
      simpa using h
theorem impl_GoodParents_loop (ps : List Int) (hb : ps.length ≤ 1000000000) (hall : allB (-1) ((ps.length : Int) - 1) ps = true) : ∀ (d i : Nat), i + d = ps.length → Ev (fun k => impl_GoodParents.l0 k ps (ps.length : Int) (i : Int)) (upsB ps i d) := by
  intro d
  induction d with
  | zero =>
    intro i hi
    refine ev_succ.1 ?_
    simp only [impl_GoodParents.l0, show ((i : Int) < (ps.length : Int)) = False from eq_false (by omega), if_false, ev_some, upsB]
  | succ d ih =>
    intro i hi
    refine ev_succ.1 ?_
    simp only [impl_GoodParents.l0, show ((i : Int) < (ps.length : Int)) = True from eq_true (by omega), if_true, upsB]
    have hn := ih (i + 1) (by omega)
    have h := impl_GoodParents_in ps hb hall (ps.length : Int) (i : Int) _ (by rw [w64 (by omega) (by omega)]; exact hn) ps.length 0 (i : Int) (by omega) (by omega)
    exact h
theorem impl_GoodParents_ev (ps : List Int) (hb : ps.length ≤ 1000000000) : Ev (fun k => impl_GoodParents.f k ps) (goodP ps) := by
  unfold impl_GoodParents.f goodP
  simp only [impl_isSpots_eq, Option.bind_some, ev_bind (impl_allIn_ev (-1) (wrap64 ((ps.length : Int) - 1)) ps (by omega)), ev_ite]
  rw [w64 (n := (ps.length : Int) - 1) (by omega) (by omega)]
  have ht : Ev (fun k => impl_GoodParents.j0 k ps true) false := by
    refine ev_succ.1 ?_
    simp only [impl_GoodParents.j0, if_true]
    exact Ev.now _
  cases inB 1 12 (ps.length : Int)
  · simpa using ht
  · cases hall : allB (-1) ((ps.length : Int) - 1) ps
    · simpa using ht
    · have hf : Ev (fun k => impl_GoodParents.j0 k ps false) (upsB ps 0 ps.length) := by
        refine ev_succ.1 ?_
        simp only [impl_GoodParents.j0, Bool.false_eq_true, if_false]
        exact impl_GoodParents_loop ps hb hall ps.length 0 (by omega)
      simpa using hf

theorem impl_goodTree_ev (ps l : List Int) (hb : ps.length ≤ 1000000000) (hl : l.length ≤ 1000000000) : Ev (fun k => impl_goodTree.f k ps l) (goodP ps && allB 0 ((ps.length : Int) - 1) l) := by
  unfold impl_goodTree.f
  simp only [ev_bind (impl_GoodParents_ev ps hb), ev_bind (impl_allIn_ev 0 (wrap64 ((ps.length : Int) - 1)) l (by omega)), ev_ite, ev_some]
  rw [w64 (n := (ps.length : Int) - 1) (by omega) (by omega)]
  cases goodP ps <;> simp

end Go.Proofs.Ytfkjnpgpofcinaa.Pure
