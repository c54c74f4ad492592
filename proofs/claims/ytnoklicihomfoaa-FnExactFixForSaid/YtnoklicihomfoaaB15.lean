/- What functions of the program answer, as plain functions: used by the laws of this claim. -/
import Derived.Test.YtnoklicihomfoaaB0
import Derived.Test.YtnoklicihomfoaaF15
namespace Go.Proofs.Ytnoklicihomfoaa.Pure
open Go.RowKit Go.Proofs.Ytnoklicihomfoaa.P Go.Proofs.YtnoklicihomfoaaW.PrintWords Go.Proofs.Ytnoklicihomfoaa.Q
set_option linter.unusedVariables false
set_option linter.unusedSimpArgs false

theorem impl_groups_rdL (p : List (List Int)) (x : List Int) (t : List (List Int)) : rd_L3 (p ++ x :: t) (p.length : Int) = x := by simp [rd_L3]
theorem flag_eq (a b m : Int) (h : a = m) : (false || (decide (a ≠ m) || decide (b ≠ m))) = (b != m) := by
  subst h
  by_cases h2 : b = a <;> simp [h2]
theorem flag_eq2 (a b m : Int) (h : ¬ a = m) : (false || (decide (a ≠ m) || decide (b ≠ m))) = true := by simp [h]
/-- Pairs as lists of two. -/
def twos (ab : List (Int × Int)) : List (List Int) := ab.map fun e => [e.1, e.2]
theorem impl_groups_in (n : Nat) (ab : List (Int × Int)) (hw : Within n ab) (hb : ab.length ≤ 1000000000) (v : List Int) (t : List (Int × Int)) : ∀ (p : List (Int × Int)) (g : List Int) (b : Bool), p ++ t = ab → g.length = n → (Ev (fun k => impl_groups.l1 k (twos ab) (passF t g b).1 (passF t g b).2) v) → Ev (fun k => impl_groups.l2 k (twos ab) g b (twos ab) ((twos ab).length : Int) (p.length : Int)) v := by
  induction t with
  | nil =>
    intro p g b e hg hc
    refine ev_succ.1 ?_
    have e1 : ((p.length : Int) < ((twos ab).length : Int)) = False := eq_false (by rw [← e]; simp [twos])
    simp only [impl_groups.l2, e1, if_false]
    exact hc
  | cons x t ih =>
    intro p g b e hg hc
    have hxm : x ∈ ab := by rw [← e]; simp
    have hb2 : (p ++ x :: t).length ≤ 1000000000 := by rw [e]; exact hb
    obtain ⟨b0, b1, b2, b3⟩ := hw _ hxm
    refine ev_succ.1 ?_
    have e0 : twos ab = twos p ++ [x.1, x.2] :: twos t := by rw [← e]; simp [twos]
    have e3 : (p.length : Int) = ((twos p).length : Int) := by simp [twos]
    have e1 : ((p.length : Int) < ((twos ab).length : Int)) = True := by rw [e0, e3]; exact c_lt _ _ _
    have e2 : rd_L3 (twos ab) (p.length : Int) = [x.1, x.2] := by rw [e0, e3]; exact impl_groups_rdL _ _ _
    have r0 : rd [x.1, x.2] 0 = x.1 := rfl
    have r1 : rd [x.1, x.2] 1 = x.2 := rfl
    have hmn : mn (rd g x.1) (rd g x.2) = min (rd g x.1) (rd g x.2) := by unfold mn; split <;> omega
    have hl0 : ((0 : Int) < ([x.1, x.2].length : Int)) = True := eq_true (by simp)
    have hl1 : ((1 : Int) < ([x.1, x.2].length : Int)) = True := eq_true (by simp)
    simp only [impl_groups.l2, e1, e2, r0, r1, hl0, hl1, hmn, c_nn, if_true, hg, show (0 ≤ x.1) = True from eq_true b0, show (x.1 < (n : Int)) = True from eq_true b1, show (0 ≤ x.2) = True from eq_true b2, show (x.2 < (n : Int)) = True from eq_true b3, c_next p x t (by omega), ev_ite]
    have hn : ∀ b', passF t (relax1 g x) b' = passF t (relax1 g x) b' → Ev (fun k => impl_groups.l1 k (twos ab) (passF t (relax1 g x) b').1 (passF t (relax1 g x) b').2) v → Ev (fun k => impl_groups.l2 k (twos ab) (relax1 g x) b' (twos ab) ((twos ab).length : Int) ((p ++ [x]).length : Int)) v :=
      fun b' _ h => ih (p ++ [x]) (relax1 g x) b' (by rw [← e]; simp) (by rw [relax1_length]; exact hg) h
    simp only [passF] at hc
    cases b
    · by_cases h1 : rd g x.1 = min (rd g x.1) (rd g x.2)
      · simp only [Bool.false_eq_true, if_false, if_pos h1]
        refine hn _ rfl ?_
        rw [flag_eq _ _ _ h1] at hc
        exact hc
      · simp only [Bool.false_eq_true, if_false, if_neg h1]
        refine hn _ rfl ?_
        rw [flag_eq2 _ _ _ h1] at hc
        exact hc
    · simp only [if_true]
      refine hn _ rfl ?_
      simpa only [Bool.true_or] using hc
theorem impl_groups_out (n : Nat) (ab : List (Int × Int)) (hw : Within n ab) (hb : ab.length ≤ 1000000000) : ∀ (d : Nat) (g : List Int), Inner n ab g → total g < d → Ev (fun k => impl_groups.l1 k (twos ab) g true) (settleG ab d g) := by
  intro d
  induction d with
  | zero => intro g hi ht; have := total_nonneg hi; omega
  | succ d ih =>
    intro g hi ht
    refine ev_succ.1 ?_
    simp only [impl_groups.l1, if_true]
    refine impl_groups_in n ab hw hb _ ab [] g false rfl hi.1 ?_
    rw [passF_fst]
    unfold settleG
    cases h : (passF ab g false).2
    · simp only [Bool.false_eq_true, if_false]
      refine ev_succ.1 ?_
      simp only [impl_groups.l1, Bool.false_eq_true, if_false, ev_some]
    · simp only [if_true]
      rcases (total_pass ab hw g false hi.1).2 h with h3 | h3
      · cases h3
      · exact ih _ (inner_pass hw hi) (by omega)
theorem impl_groups_ev (n : Nat) (ab : List (Int × Int)) (hw : Within n ab) (hb : ab.length ≤ 1000000000) (hn : n ≤ 1000000000) : Ev (fun k => impl_groups.f k (n : Int) (twos ab)) (groupsV n ab) := by
  unfold impl_groups.f
  simp only [c_nn, if_true, Int.toNat_natCast, show (n ≤ 35184372088832) = True from eq_true (by omega), Option.bind_some, List.length_replicate]
  have h : ∀ (d i : Nat), i + d = n → Ev (fun k => impl_groups.l0 k (twos ab) (initG i ++ List.replicate d 0) (n : Int) (i : Int)) (groupsV n ab) := by
    intro d
    induction d with
    | zero =>
      intro i hi
      obtain rfl : i = n := by omega
      refine ev_succ.1 ?_
      simp only [impl_groups.l0, Int.lt_irrefl, if_false, List.replicate_zero, List.append_nil]
      have := impl_groups_out i ab hw hb ((total (initG i)).toNat + 1) (initG i) (inner_init i ab) (by omega)
      rwa [(settleG_groups hw _ _ (inner_init i ab) (by omega)).unique (groupsV_is hw)] at this
    | succ d ih =>
      intro i hi
      refine ev_succ.1 ?_
      have e1 : ((i : Int) < ((initG i ++ List.replicate (d + 1) 0).length : Int)) = True := eq_true (by simp [initG_length]; omega)
      have e2 : (initG i ++ List.replicate (d + 1) 0).set ((i : Int)).toNat (i : Int) = initG (i + 1) ++ List.replicate d 0 := by
        have h1 := c_set (initG i) 0 (i : Int) (List.replicate d 0)
        rw [initG_length] at h1
        rw [show List.replicate (d + 1) (0 : Int) = 0 :: List.replicate d 0 from rfl, h1]
        simp [initG, List.range_succ]
      simp only [impl_groups.l0, show ((i : Int) < (n : Int)) = True from eq_true (by omega), if_true, c_nn, e1, e2, w64 (n := (i : Int) + 1) (by omega) (by omega)]
      exact ih (i + 1) (by omega)
  exact h n 0 (by omega)

end Go.Proofs.Ytnoklicihomfoaa.Pure
