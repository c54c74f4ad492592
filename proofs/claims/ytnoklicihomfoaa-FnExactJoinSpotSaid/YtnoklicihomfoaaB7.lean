/- What functions of the program answer, as plain functions: used by the laws of this claim. -/
import Derived.Test.YtnoklicihomfoaaB0
import Derived.Test.YtnoklicihomfoaaF7
import Derived.Test.YtnoklicihomfoaaQTree
namespace Go.Proofs.Ytnoklicihomfoaa.Pure
open Go.RowKit Go.Proofs.Ytnoklicihomfoaa.P Go.Proofs.YtnoklicihomfoaaW.PrintWords Go.Proofs.Ytnoklicihomfoaa.Q
set_option linter.unusedVariables false
set_option linter.unusedSimpArgs false

theorem spec_l1In_eq (a b c : Int) : spec_l1In.f a b c = some (inB b c a) := by
  unfold spec_l1In.f inB
  by_cases h1 : a ≥ b <;> by_cases h2 : a ≤ c <;> simp [h1, h2] <;> omega

theorem spec_l1Rising_loop (lo hi : Int) (t : List Int) : ∀ p : List Int, (p ++ t).length ≤ 9223372036854775806 → Ev (fun k => spec_l1Rising.l0 k (p ++ t) lo hi (p ++ t) ((p ++ t).length : Int) (p.length : Int)) (allB lo hi t && chainB p.getLast? t) := by
  induction t with
  | nil =>
    intro p _
    refine ev_succ.1 ?_
    simp only [spec_l1Rising.l0, c_end, Int.lt_irrefl, if_false, ev_some]
    simp [allB_nil, chainB_nil]
  | cons x t ih =>
    intro p hb
    refine ev_succ.1 ?_
    have hn := ih (p ++ [x]) (by rwa [← c_app])
    simp only [spec_l1Rising.l0, c_lt, c_nn, c_rd, c_next _ _ _ hb, if_true, spec_l1In_eq, Option.bind_some, ev_ite, ev_some]
    rw [← c_app] at hn
    cases h1 : inB lo hi x
    · simp [h1, allB_cons]
    · rcases List.eq_nil_or_concat p with rfl | ⟨q, y, rfl⟩
      · simpa [h1, allB_cons, chainB_none] using hn
      · simp only [List.concat_eq_append] at *
        have e1 : wrap64 (((q ++ [y]).length : Int) - 1) = (q.length : Int) := by
          simp only [List.length_append, List.length_cons, List.length_nil] at hb ⊢
          unfold wrap64; omega
        have e2 : rd (q ++ [y] ++ x :: t) (q.length : Int) = y := by rw [← c_app]; exact c_rd _ _ _
        have e3 : ((q.length : Int) < ((q ++ [y] ++ x :: t).length : Int)) = True := by rw [← c_app]; exact c_lt _ _ _
        have e4 : (((q ++ [y]).length : Int) > 0) = True := eq_true (by simp)
        simp only [if_true, e1, e2, e3, e4, c_nn]
        by_cases h2 : y ≥ x
        · simp [h2, chainB_some, show ¬ y < x by omega]
        · simp only [h2, if_false]
          simpa [h1, allB_cons, chainB_some, show y < x by omega] using hn
theorem spec_l1Rising_ev (lo hi : Int) (l : List Int) (h : l.length ≤ 9223372036854775806) : Ev (fun k => spec_l1Rising.f k l lo hi) (allB lo hi l && chainB none l) := spec_l1Rising_loop lo hi l [] h

theorem laws_toIntS_loop (t : List Int) : ∀ p : List Int, (p ++ t).length ≤ 9223372036854775806 → Ev (fun k => laws_toIntS.l0 k (p ++ t) (p ++ List.replicate t.length 0) (p.length : Int)) (p ++ t) := by
  induction t with
  | nil =>
    intro p _
    refine ev_succ.1 ?_
    simp only [laws_toIntS.l0, c_end, Int.lt_irrefl, if_false, ev_some, List.length_nil, List.replicate_zero]
  | cons x t ih =>
    intro p hb
    refine ev_succ.1 ?_
    have e : p ++ List.replicate (x :: t).length 0 = p ++ 0 :: List.replicate t.length 0 := rfl
    simp only [laws_toIntS.l0, e, c_lt, c_nn, c_rd, c_set, c_next _ _ _ hb, if_true]
    rw [c_app p x t]
    exact ih (p ++ [x]) (by rwa [← c_app])
theorem laws_toIntS_ev (l : List Int) (h : l.length ≤ 35184372088832) : Ev (fun k => laws_toIntS.f k l) l := by
  unfold laws_toIntS.f
  simp only [Int.toNat_natCast, h, c_nn, if_true]
  exact laws_toIntS_loop l [] (by simp; omega)

theorem impl_in_eq (a b c : Int) : impl_in.f a b c = some (inB b c a) := by
  unfold impl_in.f inB
  by_cases h1 : a ≥ b <;> by_cases h2 : a ≤ c <;> simp [h1, h2] <;> omega

theorem impl_rising_loop (t : List Int) : ∀ (p : List Int) (y : Int), (p ++ y :: t).length ≤ 9223372036854775806 → Ev (fun k => impl_rising.l0 k (p ++ y :: t) ((p ++ [y]).length : Int)) (chainB (some y) t) := by
  induction t with
  | nil =>
    intro p y _
    refine ev_succ.1 ?_
    simp only [impl_rising.l0, Int.lt_irrefl, if_false, ev_some]
    simp [chainB_nil]
  | cons x t ih =>
    intro p y hb
    refine ev_succ.1 ?_
    have hn := ih (p ++ [y]) x (by rwa [← c_app])
    have e1 : wrap64 (((p ++ [y]).length : Int) - 1) = (p.length : Int) := by
      simp only [List.length_append, List.length_cons, List.length_nil] at hb ⊢
      unfold wrap64; omega
    have e0 : p ++ y :: x :: t = (p ++ [y]) ++ x :: t := c_app _ _ _
    have e2 : rd (p ++ y :: x :: t) (p.length : Int) = y := c_rd _ _ _
    have e3 : ((p.length : Int) < ((p ++ y :: x :: t).length : Int)) = True := c_lt _ _ _
    have e4 : (((p ++ [y]).length : Int) < ((p ++ y :: x :: t).length : Int)) = True := by rw [e0]; exact c_lt _ _ _
    have e5 : rd (p ++ y :: x :: t) ((p ++ [y]).length : Int) = x := by rw [e0]; exact c_rd _ _ _
    have e6 := c_next (p ++ [y]) x t (by rwa [← e0])
    simp only [impl_rising.l0, e1, e2, e3, e4, e5, e6, c_nn, if_true, ev_ite, ev_some]
    by_cases h2 : y ≥ x
    · simp [h2, chainB_some, show ¬ y < x by omega]
    · simp only [h2, if_false]
      rw [e0]
      simpa [chainB_some, show y < x by omega] using hn
theorem impl_rising_ev (l : List Int) (h : l.length ≤ 9223372036854775806) : Ev (fun k => impl_rising.f k l) (chainB none l) := by
  unfold impl_rising.f
  cases l with
  | nil => refine ev_succ.1 ?_; simp [impl_rising.l0, ev_some, chainB_nil]
  | cons y t => simpa [chainB_none] using impl_rising_loop t [] y h

theorem impl_allIn_loop (lo hi : Int) (t : List Int) : ∀ p : List Int, (p ++ t).length ≤ 9223372036854775806 → Ev (fun k => impl_allIn.l0 k lo hi (p ++ t) ((p ++ t).length : Int) (p.length : Int)) (allB lo hi t) := by
  induction t with
  | nil =>
    intro p _
    refine ev_succ.1 ?_
    simp only [impl_allIn.l0, c_end, Int.lt_irrefl, if_false, ev_some]
    simp [allB_nil]
  | cons x t ih =>
    intro p hb
    refine ev_succ.1 ?_
    have hn := ih (p ++ [x]) (by rwa [← c_app])
    simp only [impl_allIn.l0, c_lt, c_nn, c_rd, c_next _ _ _ hb, if_true, impl_in_eq, Option.bind_some, ev_ite, ev_some]
    rw [← c_app] at hn
    cases h1 : inB lo hi x
    · simp [h1, allB_cons]
    · simpa [h1, allB_cons] using hn
theorem impl_allIn_ev (lo hi : Int) (l : List Int) (h : l.length ≤ 9223372036854775806) : Ev (fun k => impl_allIn.f k l lo hi) (allB lo hi l) := impl_allIn_loop lo hi l [] h

theorem laws_eqIntS_loop (t : List Int) : ∀ p : List Int, (p ++ t).length ≤ 9223372036854775806 → Ev (fun k => laws_eqIntS.l0 k (p ++ t) (p ++ t) (p.length : Int)) true := by
  induction t with
  | nil =>
    intro p _
    refine ev_succ.1 ?_
    simp only [laws_eqIntS.l0, c_end, Int.lt_irrefl, if_false, ev_some]
  | cons x t ih =>
    intro p hb
    refine ev_succ.1 ?_
    simp only [laws_eqIntS.l0, c_lt, c_nn, c_next _ _ _ hb, if_true]
    rw [c_app p x t]
    exact ih (p ++ [x]) (by rwa [← c_app])
theorem laws_eqIntS_ev (l : List Int) (h : l.length ≤ 9223372036854775806) : Ev (fun k => laws_eqIntS.f k l l) true := by
  unfold laws_eqIntS.f
  simp only [if_true]
  exact laws_eqIntS_loop l [] h

theorem laws_markIntS_loop (t : List Int) : ∀ (q : List Int) (a : Int), (q ++ t).length ≤ 9223372036854775806 → 0 ≤ a → a + t.length ≤ 9223372036854775807 → Ev (fun k => laws_markIntS.l0 k (q ++ t) a (q.length : Int)) (a + t.length, q ++ marks t.length a) := by
  induction t with
  | nil =>
    intro q a _ _ _
    refine ev_succ.1 ?_
    simp only [laws_markIntS.l0, c_end, Int.lt_irrefl, if_false, ev_some]
    simp [marks]
  | cons x t ih =>
    intro q a hb h0 h1
    refine ev_succ.1 ?_
    simp only [List.length_cons] at h1
    simp only [laws_markIntS.l0, c_lt, c_nn, c_set, c_next _ _ _ hb, if_true]
    rw [w64 (n := a + 1) (by omega) (by omega), show ((q ++ [x]).length : Int) = ((q ++ [a]).length : Int) by simp]
    have := ih (q ++ [a]) (a + 1) (by simpa using hb) (by omega) (by omega)
    rw [show a + ((x :: t).length : Int) = a + 1 + (t.length : Int) by simp; omega, show q ++ marks (x :: t).length a = (q ++ [a]) ++ marks t.length (a + 1) by simp [marks]]
    exact this
theorem laws_markIntS_ev (l : List Int) (a : Int) (h : l.length ≤ 9223372036854775806) (h0 : 0 ≤ a) (h1 : a + l.length ≤ 9223372036854775807) : Ev (fun k => laws_markIntS.f k l a) (a + l.length, marks l.length a) := laws_markIntS_loop l [] a h h0 h1

theorem laws_heldIntS_loop (n : Nat) : ∀ (p : List Int) (a : Int), p.length + n ≤ 9223372036854775806 → 0 ≤ a → a + n ≤ 9223372036854775807 → Ev (fun k => laws_heldIntS.l0 k (p ++ marks n a) a (p.length : Int)) (a + n) := by
  induction n with
  | zero =>
    intro p a _ _ _
    refine ev_succ.1 ?_
    simp only [laws_heldIntS.l0, marks, c_end, Int.lt_irrefl, if_false, ev_some]
    simp
  | succ n ih =>
    intro p a hb h0 h1
    refine ev_succ.1 ?_
    simp only [laws_heldIntS.l0, marks, c_lt, c_nn, c_rd, if_true]
    rw [w64 (n := a + 1) (by omega) (by omega), c_next p a (marks n (a + 1)) (by simp [marks_length]; omega), c_app p a (marks n (a + 1))]
    have := ih (p ++ [a]) (a + 1) (by simp; omega) (by omega) (by omega)
    rw [show a + ((n + 1 : Nat) : Int) = a + 1 + (n : Int) by omega]
    exact this
theorem laws_heldIntS_ev (n : Nat) (a : Int) (h : n ≤ 9223372036854775806) (h0 : 0 ≤ a) (h1 : a + n ≤ 9223372036854775807) : Ev (fun k => laws_heldIntS.f k (marks n a) a) (a + n) := by
  unfold laws_heldIntS.f
  exact laws_heldIntS_loop n [] a (by simpa using h) h0 h1

-- needs QTree
theorem spec_l1Put_loop (n : Int) (t : List Int) : ∀ p : List Int, (p ++ t).length ≤ 8796093022206 → Ev (fun k => spec_l1Put.l0 k (p ++ t) n (p.length : Int)) (p ++ putV t n) := by
  induction t with
  | nil =>
    intro p hb
    refine ev_succ.1 ?_
    rw [List.append_nil]
    have e1 : ((p.length : Int) ≤ (p.length : Int)) = True := eq_true (Int.le_refl _)
    have e2 : p.take ((p.length : Int)).toNat = p := by simp
    have e3 : p.drop ((p.length : Int)).toNat = [] := by simp
    have e4 : (p.length < 17592186044416) = True := eq_true (by simp at hb; omega)
    have e5 : ((p ++ [n]).length < 17592186044416) = True := eq_true (by simp at hb ⊢; omega)
    simp only [spec_l1Put.l0, c_end, Int.lt_irrefl, if_false, Option.bind_some, c_nn, if_true, e1, e2, e3, e4, e5, List.nil_append, List.length_nil, Nat.zero_add, Nat.add_zero, List.append_nil, ev_some, putV]
  | cons x t ih =>
    intro p hb
    refine ev_succ.1 ?_
    have e1 : ((p.length : Int) ≤ ((p ++ x :: t).length : Int)) = True := eq_true (by simp; omega)
    have e2 : (p ++ x :: t).take ((p.length : Int)).toNat = p := by simp
    have e3 : (p ++ x :: t).drop ((p.length : Int)).toNat = x :: t := by simp
    have e4 : (p.length < 17592186044416) = True := eq_true (by simp at hb; omega)
    have e5 : ((p ++ [n]).length + (x :: t).length < 17592186044416) = True := eq_true (by simp at hb ⊢; omega)
    simp only [spec_l1Put.l0, c_lt, c_nn, c_rd, c_next p x t (by omega), Option.bind_some, if_true, e1, e2, e3, e4, e5, List.nil_append, List.length_nil, Nat.zero_add, ev_ite, ev_some]
    have h1 := ih (p ++ [x]) (by rwa [← c_app])
    rw [← c_app] at h1
    by_cases h : x < n
    · simpa [h, putV] using h1
    · by_cases h2 : x = n <;> simp [h, h2, putV]
theorem spec_l1Put_ev (l : List Int) (n : Int) (h : l.length ≤ 8796093022206) : Ev (fun k => spec_l1Put.f k l n) (putV l n) := spec_l1Put_loop n l [] h

theorem spec_l14Wants_ev (l : List Int) (h : l.length ≤ 9223372036854775806) : Ev (fun k => spec_l14Wants.f k l) (allB 0 11 l && chainB none l) := by
  unfold spec_l14Wants.f
  simp only [ev_bind (spec_l1Rising_ev 0 11 l h), ev_some]

theorem spec_JoinSpot_ev (l : List Int) (n : Int) (h : l.length ≤ 2097152) : Ev (fun k => spec_JoinSpot.f k l n) (if (allB 0 11 l && chainB none l) && inB 0 11 n then (putV l n, true) else ([], false)) := by
  have hl := putV_length n l
  unfold spec_JoinSpot.f
  simp only [ev_bind (spec_l14Wants_ev l (by omega)), spec_l1In_eq, Option.bind_some, ev_bind (spec_l1Put_ev l n (by omega)), List.nil_append, List.length_nil, Nat.zero_add, show ((putV l n).length < 17592186044416) = True from eq_true (by omega), if_true, ev_ite, ev_some]
  cases allB 0 11 l <;> cases chainB none l <;> cases inB 0 11 n <;> rfl

theorem impl_goodWants_ev (l : List Int) (h : l.length ≤ 9223372036854775806) : Ev (fun k => impl_goodWants.f k l) (allB 0 11 l && chainB none l) := by
  unfold impl_goodWants.f
  simp only [ev_bind (impl_rising_ev l h), ev_bind (impl_allIn_ev 0 11 l h), ev_ite, ev_some]
  cases chainB none l <;> simp

theorem impl_isSpot_eq (a : Int) : impl_isSpot.f a = some (inB 0 11 a) := by
  unfold impl_isSpot.f
  rw [impl_in_eq]; rfl

theorem slices_Clone_int_int_eq (l : List Int) (h : l.length ≤ 2097152) : slices_Clone_int_int.f l = some l := by
  unfold slices_Clone_int_int.f
  simp only [Option.bind_some, List.nil_append, List.length_nil, Nat.zero_add]
  rw [if_pos (by omega)]

theorem cmp_isNaN_int_eq (a : Int) : cmp_isNaN_int.f a = some false := by
  unfold cmp_isNaN_int.f
  rw [bne_self_eq_false]

end Go.Proofs.Ytnoklicihomfoaa.Pure
