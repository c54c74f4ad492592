/- What functions of the program answer, as plain functions: used by the laws of this claim. -/
import Derived.Test.YtnoklicihomfoaaB0
import Derived.Test.YtnoklicihomfoaaF14
namespace Go.Proofs.Ytnoklicihomfoaa.Pure
open Go.RowKit Go.Proofs.Ytnoklicihomfoaa.P Go.Proofs.YtnoklicihomfoaaW.PrintWords Go.Proofs.Ytnoklicihomfoaa.Q
set_option linter.unusedVariables false
set_option linter.unusedSimpArgs false

theorem spec_l1Least_eq (a b : Int) : spec_l1Least.f a b = some (min a b) := by
  unfold spec_l1Least.f
  split
  · rw [show min a b = a by omega]
  · rw [show min a b = b by omega]

-- needs QGraph
theorem spec_l8Groups_in (n : Nat) (l : List S84) (hw : Within n (ends l)) (hb : l.length ≤ 1000000000) (x20 x21 : Int) (v : List Int) (t : List S84) : ∀ (p : List S84) (g : List Int), p ++ t = l → g.length = n → (Ev (fun k => spec_l8Groups.l1 k l (pass (ends t) g) x20 (wrap64 (x21 + 1))) v) → Ev (fun k => spec_l8Groups.l2 k l g x20 x21 l (l.length : Int) (p.length : Int)) v := by
  induction t with
  | nil =>
    intro p g e hg hc
    refine ev_succ.1 ?_
    subst e
    simp only [spec_l8Groups.l2, c_end, Int.lt_irrefl, if_false]
    exact hc
  | cons x t ih =>
    intro p g e hg hc
    have hxm : (x.f0, x.f1) ∈ ends l := by rw [← e]; simp [ends]
    have hb2 : (p ++ x :: t).length ≤ 1000000000 := by rw [e]; exact hb
    obtain ⟨b0, b1, b2, b3⟩ := hw _ hxm
    simp only at b0 b1 b2 b3
    refine ev_succ.1 ?_
    have e1 : ((p.length : Int) < (l.length : Int)) = True := by rw [← e]; exact c_lt _ _ _
    have e2 : rd_T84 l (p.length : Int) = x := by rw [← e]; exact rdE_at _ _ _
    simp only [spec_l8Groups.l2, e1, e2, c_nn, if_true, hg, show (0 ≤ x.f0) = True from eq_true b0, show (x.f0 < (n : Int)) = True from eq_true b1, show (0 ≤ x.f1) = True from eq_true b2, show (x.f1 < (n : Int)) = True from eq_true b3, spec_l1Least_eq, Option.bind_some, c_next p x t (by omega)]
    exact ih (p ++ [x]) (relax1 g (x.f0, x.f1)) (by rw [← e]; simp) (by rw [relax1_length]; exact hg) hc
theorem spec_l8Groups_out (n : Nat) (l : List S84) (hw : Within n (ends l)) (hb : l.length ≤ 1000000000) (hn : n ≤ 1000000000) : ∀ (d i : Nat) (g : List Int), i + d = n → g.length = n → Ev (fun k => spec_l8Groups.l1 k l g (n : Int) (i : Int)) (passes (ends l) d g) := by
  intro d
  induction d with
  | zero =>
    intro i g hi hg
    refine ev_succ.1 ?_
    simp only [spec_l8Groups.l1, show ((i : Int) < (n : Int)) = False from eq_false (by omega), if_false, ev_some, passes]
  | succ d ih =>
    intro i g hi hg
    refine ev_succ.1 ?_
    simp only [spec_l8Groups.l1, show ((i : Int) < (n : Int)) = True from eq_true (by omega), if_true, passes]
    refine spec_l8Groups_in n l hw hb (n : Int) (i : Int) _ l [] g rfl hg ?_
    rw [w64 (by omega) (by omega)]
    exact ih (i + 1) (pass (ends l) g) (by omega) (by rw [pass_length]; exact hg)
theorem spec_l8Groups_ev (n : Nat) (l : List S84) (hw : Within n (ends l)) (hb : l.length ≤ 1000000000) (hn : n ≤ 1000000000) : Ev (fun k => spec_l8Groups.f k (n : Int) l) (groupsV n (ends l)) := by
  have h : ∀ (d i : Nat), i + d = n → Ev (fun k => spec_l8Groups.l0 k (n : Int) l (initG i) (i : Int)) (groupsV n (ends l)) := by
    intro d
    induction d with
    | zero =>
      intro i hi
      obtain rfl : i = n := by omega
      refine ev_succ.1 ?_
      simp only [spec_l8Groups.l0, Int.lt_irrefl, if_false, initG_length]
      exact spec_l8Groups_out i l hw hb hn i 0 (initG i) (by omega) (initG_length i)
    | succ d ih =>
      intro i hi
      refine ev_succ.1 ?_
      simp only [spec_l8Groups.l0, show ((i : Int) < (n : Int)) = True from eq_true (by omega), if_true, initG_length, show (i < 17592186044416) = True from eq_true (by omega), w64 (n := (i : Int) + 1) (by omega) (by omega)]
      have := ih (i + 1) (by omega)
      rw [show initG (i + 1) = initG i ++ [(i : Int)] by simp [initG, List.range_succ]] at this
      exact this
  exact h n 0 (by omega)

end Go.Proofs.Ytnoklicihomfoaa.Pure
