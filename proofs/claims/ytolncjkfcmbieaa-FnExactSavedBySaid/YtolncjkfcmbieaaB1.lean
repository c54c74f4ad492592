/- What functions of the program answer, as plain functions: used by the laws of this claim. -/
import Derived.Test.YtolncjkfcmbieaaB0
import Derived.Test.YtolncjkfcmbieaaF1
import Derived.Test.YtolncjkfcmbieaaQTree
namespace Go.Proofs.Ytolncjkfcmbieaa.Pure
open Go.RowKit Go.Proofs.Ytolncjkfcmbieaa.P Go.Proofs.YtolncjkfcmbieaaW.PrintWords Go.Proofs.Ytolncjkfcmbieaa.Q
set_option linter.unusedVariables false
set_option linter.unusedSimpArgs false

theorem spec_l1In_eq (a b c : Int) : spec_l1In.f a b c = some (inB b c a) := by
  unfold spec_l1In.f inB
  by_cases h1 : a ≥ b <;> by_cases h2 : a ≤ c <;> simp [h1, h2] <;> omega

-- needs QTree
theorem spec_l1Put_loop (n : Int) (t : List Int) : ∀ p : List Int, (p ++ t).length ≤ 8796093022206 → Ev (fun k => spec_l1Put.l0 k (p ++ t) n (p.length : Int)) (p ++ putV t n) := by
  induction t with
  | nil =>
    intro p hb
    refine ev_succ.1 ?_
    rw [List.append_nil]
    have e1 : ((p.length : Int) ≤ (p.length : Int)) = True := eq_true (Int.le_refl _)
    have e2 : p.take ((p.length : Int)).toNat = p := by simp
    have e3 : p.drop ((p.length : Int)).toNat = [] := by simp
    have e4 : (p.length < 17592186044416) = True := eq_true (by simp at hb; omega)
    have e5 : ((p ++ [n]).length < 17592186044416) = True := eq_true (by simp at hb ⊢; omega)
    simp only [spec_l1Put.l0, c_end, Int.lt_irrefl, if_false, Option.bind_some, c_nn, if_true, e1, e2, e3, e4, e5, List.nil_append, List.length_nil, Nat.zero_add, Nat.add_zero, List.append_nil, ev_some, putV]
  | cons x t ih =>
    intro p hb
    refine ev_succ.1 ?_
    have e1 : ((p.length : Int) ≤ ((p ++ x :: t).length : Int)) = True := eq_true (by simp; omega)
    have e2 : (p ++ x :: t).take ((p.length : Int)).toNat = p := by simp
    have e3 : (p ++ x :: t).drop ((p.length : Int)).toNat = x :: t := by simp
    have e4 : (p.length < 17592186044416) = True := eq_true (by simp at hb; omega)
    have e5 : ((p ++ [n]).length + (x :: t).length < 17592186044416) = True := eq_true (by simp at hb ⊢; omega)
    simp only [spec_l1Put.l0, c_lt, c_nn, c_rd, c_next p x t (by omega), Option.bind_some, if_true, e1, e2, e3, e4, e5, List.nil_append, List.length_nil, Nat.zero_add, ev_ite, ev_some]
    have h1 := ih (p ++ [x]) (by rwa [← c_app])
    rw [← c_app] at h1
    by_cases h : x < n
    · simpa [h, putV] using h1
    · by_cases h2 : x = n <;> simp [h, h2, putV]
theorem spec_l1Put_ev (l : List Int) (n : Int) (h : l.length ≤ 8796093022206) : Ev (fun k => spec_l1Put.f k l n) (putV l n) := spec_l1Put_loop n l [] h

theorem impl_in_eq (a b c : Int) : impl_in.f a b c = some (inB b c a) := by
  unfold impl_in.f inB
  by_cases h1 : a ≥ b <;> by_cases h2 : a ≤ c <;> simp [h1, h2] <;> omega

theorem impl_isSpots_eq (a : Int) : impl_isSpots.f a = some (inB 1 12 a) := by
  unfold impl_isSpots.f
  rw [impl_in_eq]; rfl

theorem impl_allIn_loop (lo hi : Int) (t : List Int) : ∀ p : List Int, (p ++ t).length ≤ 9223372036854775806 → Ev (fun k => impl_allIn.l0 k lo hi (p ++ t) ((p ++ t).length : Int) (p.length : Int)) (allB lo hi t) := by
  induction t with
  | nil =>
    intro p _
    refine ev_succ.1 ?_
    simp only [impl_allIn.l0, c_end, Int.lt_irrefl, if_false, ev_some]
    simp [allB_nil]
  | cons x t ih =>
    intro p hb
    refine ev_succ.1 ?_
    have hn := ih (p ++ [x]) (by rwa [← c_app])
    simp only [impl_allIn.l0, c_lt, c_nn, c_rd, c_next _ _ _ hb, if_true, impl_in_eq, Option.bind_some, ev_ite, ev_some]
    rw [← c_app] at hn
    cases h1 : inB lo hi x
    · simp [h1, allB_cons]
    · simpa [h1, allB_cons] using hn
theorem impl_allIn_ev (lo hi : Int) (l : List Int) (h : l.length ≤ 9223372036854775806) : Ev (fun k => impl_allIn.f k l lo hi) (allB lo hi l) := impl_allIn_loop lo hi l [] h

theorem laws_eqIntS_loop (t : List Int) : ∀ p : List Int, (p ++ t).length ≤ 9223372036854775806 → Ev (fun k => laws_eqIntS.l0 k (p ++ t) (p ++ t) (p.length : Int)) true := by
  induction t with
  | nil =>
    intro p _
    refine ev_succ.1 ?_
    simp only [laws_eqIntS.l0, c_end, Int.lt_irrefl, if_false, ev_some]
  | cons x t ih =>
    intro p hb
    refine ev_succ.1 ?_
    simp only [laws_eqIntS.l0, c_lt, c_nn, c_next _ _ _ hb, if_true]
    rw [c_app p x t]
    exact ih (p ++ [x]) (by rwa [← c_app])
theorem laws_eqIntS_ev (l : List Int) (h : l.length ≤ 9223372036854775806) : Ev (fun k => laws_eqIntS.f k l l) true := by
  unfold laws_eqIntS.f
  simp only [if_true]
  exact laws_eqIntS_loop l [] h

theorem laws_toIntS_loop (t : List Int) : ∀ p : List Int, (p ++ t).length ≤ 9223372036854775806 → Ev (fun k => laws_toIntS.l0 k (p ++ t) (p ++ List.replicate t.length 0) (p.length : Int)) (p ++ t) := by
  induction t with
  | nil =>
    intro p _
    refine ev_succ.1 ?_
    simp only [laws_toIntS.l0, c_end, Int.lt_irrefl, if_false, ev_some, List.length_nil, List.replicate_zero]
  | cons x t ih =>
    intro p hb
    refine ev_succ.1 ?_
    have e : p ++ List.replicate (x :: t).length 0 = p ++ 0 :: List.replicate t.length 0 := rfl
    simp only [laws_toIntS.l0, e, c_lt, c_nn, c_rd, c_set, c_next _ _ _ hb, if_true]
    rw [c_app p x t]
    exact ih (p ++ [x]) (by rwa [← c_app])
theorem laws_toIntS_ev (l : List Int) (h : l.length ≤ 35184372088832) : Ev (fun k => laws_toIntS.f k l) l := by
  unfold laws_toIntS.f
  simp only [Int.toNat_natCast, h, c_nn, if_true]
  exact laws_toIntS_loop l [] (by simp; omega)

theorem spec_l1Rising_loop (lo hi : Int) (t : List Int) : ∀ p : List Int, (p ++ t).length ≤ 9223372036854775806 → Ev (fun k => spec_l1Rising.l0 k (p ++ t) lo hi (p ++ t) ((p ++ t).length : Int) (p.length : Int)) (allB lo hi t && chainB p.getLast? t) := by
  induction t with
  | nil =>
    intro p _
    refine ev_succ.1 ?_
    simp only [spec_l1Rising.l0, c_end, Int.lt_irrefl, if_false, ev_some]
    simp [allB_nil, chainB_nil]
  | cons x t ih =>
    intro p hb
    refine ev_succ.1 ?_
    have hn := ih (p ++ [x]) (by rwa [← c_app])
    simp only [spec_l1Rising.l0, c_lt, c_nn, c_rd, c_next _ _ _ hb, if_true, spec_l1In_eq, Option.bind_some, ev_ite, ev_some]
    rw [← c_app] at hn
    cases h1 : inB lo hi x
    · simp [h1, allB_cons]
    · rcases List.eq_nil_or_concat p with rfl | ⟨q, y, rfl⟩
      · simpa [h1, allB_cons, chainB_none] using hn
      · simp only [List.concat_eq_append] at *
        have e1 : wrap64 (((q ++ [y]).length : Int) - 1) = (q.length : Int) := by
          simp only [List.length_append, List.length_cons, List.length_nil] at hb ⊢
          unfold wrap64; omega
        have e2 : rd (q ++ [y] ++ x :: t) (q.length : Int) = y := by rw [← c_app]; exact c_rd _ _ _
        have e3 : ((q.length : Int) < ((q ++ [y] ++ x :: t).length : Int)) = True := by rw [← c_app]; exact c_lt _ _ _
        have e4 : (((q ++ [y]).length : Int) > 0) = True := eq_true (by simp)
        simp only [if_true, e1, e2, e3, e4, c_nn]
        by_cases h2 : y ≥ x
        · simp [h2, chainB_some, show ¬ y < x by omega]
        · simp only [h2, if_false]
          simpa [h1, allB_cons, chainB_some, show y < x by omega] using hn
theorem spec_l1Rising_ev (lo hi : Int) (l : List Int) (h : l.length ≤ 9223372036854775806) : Ev (fun k => spec_l1Rising.f k l lo hi) (allB lo hi l && chainB none l) := spec_l1Rising_loop lo hi l [] h

theorem spec_l1Has_loop (x1 : Int) (t : List Int) : ∀ p : List Int, (p ++ t).length ≤ 9223372036854775806 → Ev (fun k => spec_l1Has.l0 k x1 (p ++ t) ((p ++ t).length : Int) (p.length : Int)) (hasB x1 t) := by
  induction t with
  | nil =>
    intro p _
    refine ev_succ.1 ?_
    simp only [spec_l1Has.l0, c_end, Int.lt_irrefl, if_false, ev_some]
    rfl
  | cons x t ih =>
    intro p hb
    refine ev_succ.1 ?_
    have hn := ih (p ++ [x]) (by rwa [← c_app])
    rw [← c_app] at hn
    simp only [spec_l1Has.l0, c_lt, c_nn, c_rd, c_next p x t hb, if_true, ev_ite, ev_some]
    by_cases h : x = x1
    · simp [h, hasB]
    · simpa [h, hasB, show ¬ x1 = x from fun h2 => h h2.symm] using hn
theorem spec_l1Has_ev (l : List Int) (x : Int) (h : l.length ≤ 9223372036854775806) : Ev (fun k => spec_l1Has.f k l x) (hasB x l) := spec_l1Has_loop x l [] h

theorem impl_rising_loop (t : List Int) : ∀ (p : List Int) (y : Int), (p ++ y :: t).length ≤ 9223372036854775806 → Ev (fun k => impl_rising.l0 k (p ++ y :: t) ((p ++ [y]).length : Int)) (chainB (some y) t) := by
  induction t with
  | nil =>
    intro p y _
    refine ev_succ.1 ?_
    simp only [impl_rising.l0, Int.lt_irrefl, if_false, ev_some]
    simp [chainB_nil]
  | cons x t ih =>
    intro p y hb
    refine ev_succ.1 ?_
    have hn := ih (p ++ [y]) x (by rwa [← c_app])
    have e1 : wrap64 (((p ++ [y]).length : Int) - 1) = (p.length : Int) := by
      simp only [List.length_append, List.length_cons, List.length_nil] at hb ⊢
      unfold wrap64; omega
    have e0 : p ++ y :: x :: t = (p ++ [y]) ++ x :: t := c_app _ _ _
    have e2 : rd (p ++ y :: x :: t) (p.length : Int) = y := c_rd _ _ _
    have e3 : ((p.length : Int) < ((p ++ y :: x :: t).length : Int)) = True := c_lt _ _ _
    have e4 : (((p ++ [y]).length : Int) < ((p ++ y :: x :: t).length : Int)) = True := by rw [e0]; exact c_lt _ _ _
    have e5 : rd (p ++ y :: x :: t) ((p ++ [y]).length : Int) = x := by rw [e0]; exact c_rd _ _ _
    have e6 := c_next (p ++ [y]) x t (by rwa [← e0])
    simp only [impl_rising.l0, e1, e2, e3, e4, e5, e6, c_nn, if_true, ev_ite, ev_some]
    by_cases h2 : y ≥ x
    · simp [h2, chainB_some, show ¬ y < x by omega]
    · simp only [h2, if_false]
      rw [e0]
      simpa [chainB_some, show y < x by omega] using hn
theorem impl_rising_ev (l : List Int) (h : l.length ≤ 9223372036854775806) : Ev (fun k => impl_rising.f k l) (chainB none l) := by
  unfold impl_rising.f
  cases l with
  | nil => refine ev_succ.1 ?_; simp [impl_rising.l0, ev_some, chainB_nil]
  | cons y t => simpa [chainB_none] using impl_rising_loop t [] y h

theorem slices_Index_int_int_loop (x1 : Int) (t : List Int) : ∀ p : List Int, (p ++ t).length ≤ 9223372036854775806 → Ev (fun k => slices_Index_int_int.l0 k (p ++ t) x1 ((p ++ t).length : Int) (p.length : Int)) (idxFrom x1 p.length t) := by
  induction t with
  | nil =>
    intro p _
    refine ev_succ.1 ?_
    simp only [slices_Index_int_int.l0, c_end, Int.lt_irrefl, if_false, ev_some, idxFrom]
  | cons x t ih =>
    intro p hb
    refine ev_succ.1 ?_
    have hn := ih (p ++ [x]) (by rwa [← c_app])
    rw [← c_app] at hn
    simp only [slices_Index_int_int.l0, c_lt, c_nn, c_rd, c_next p x t hb, if_true, ev_ite, ev_some, idxFrom]
    by_cases h : x1 = x
    · simp [h]
    · simpa [h] using hn
theorem slices_Index_int_int_ev (l : List Int) (x : Int) (h : l.length ≤ 9223372036854775806) : Ev (fun k => slices_Index_int_int.f k l x) (idxFrom x 0 l) := slices_Index_int_int_loop x l [] h

theorem slices_Contains_int_int_ev (l : List Int) (x : Int) (h : l.length ≤ 9223372036854775806) : Ev (fun k => slices_Contains_int_int.f k l x) (hasB x l) := by
  unfold slices_Contains_int_int.f
  simp only [ev_bind (slices_Index_int_int_ev l x h), ev_some]
  exact idxFrom_has x l 0

theorem slices_Sort_int_int_eq (l : List Int) (h : l.length ≤ 1000000000) : slices_Sort_int_int.f l = some (l.mergeSort fun x y => decide (x ≤ y)) := by
  unfold slices_Sort_int_int.f
  rw [if_pos (by omega)]
/-- What is sorted and strictly rising stays as it is, for all that has the same numbers. -/
theorem sort_of_perm {o s : List Int} (h : o.Perm s) (hs : s.Pairwise (fun a b => a < b)) : (o.mergeSort fun x y => decide (x ≤ y)) = s := by
  refine List.Perm.eq_of_pairwise (le := fun a b => a ≤ b) (fun a b _ _ h1 h2 => Int.le_antisymm h1 h2) ?_ (hs.imp (fun h => Int.le_of_lt h)) ((List.mergeSort_perm o _).trans h)
  have := List.pairwise_mergeSort (le := fun x y : Int => decide (x ≤ y)) (fun a b c h1 h2 => by simp only [decide_eq_true_eq] at *; omega) (fun a b => by simp only [Bool.or_eq_true, decide_eq_true_eq]; omega) o
  exact this.imp (fun h => by simpa using h)

end Go.Proofs.Ytolncjkfcmbieaa.Pure
