/- What functions of the program answer, as plain functions: used by the laws of this claim. -/
import Derived.Test.YtogpnannjpdllaaB0
import Derived.Test.YtogpnannjpdllaaF14
import Derived.Test.YtogpnannjpdllaaB9
namespace Go.Proofs.Ytogpnannjpdllaa.Pure
open Go.RowKit Go.Proofs.Ytogpnannjpdllaa.P Go.Proofs.YtogpnannjpdllaaW.PrintWords Go.Proofs.Ytogpnannjpdllaa.Q
set_option linter.unusedVariables false
set_option linter.unusedSimpArgs false

theorem spec_l1Least_eq (a b : Int) : spec_l1Least.f a b = some (min a b) := by
  unfold spec_l1Least.f
  split
  · rw [show min a b = a by omega]
  · rw [show min a b = b by omega]

-- needs QGraph
theorem spec_l8Groups_in (n : Nat) (l : List S58) (hw : Within n (ends l)) (hb : l.length ≤ 1000000000) (x20 x21 : Int) (v : List Int) (t : List S58) : ∀ (p : List S58) (g : List Int), p ++ t = l → g.length = n → (Ev (fun k => spec_l8Groups.l1 k l (pass (ends t) g) x20 (wrap64 (x21 + 1))) v) → Ev (fun k => spec_l8Groups.l2 k l g x20 x21 l (l.length : Int) (p.length : Int)) v := by
  induction t with
  | nil =>
    intro p g e hg hc
    refine ev_succ.1 ?_
    subst e
    simp only [spec_l8Groups.l2, c_end, Int.lt_irrefl, if_false]
    exact hc
  | cons x t ih =>
    intro p g e hg hc
    have hxm : (x.f0, x.f1) ∈ ends l := by rw [← e]; simp [ends]
    have hb2 : (p ++ x :: t).length ≤ 1000000000 := by rw [e]; exact hb
    obtain ⟨b0, b1, b2, b3⟩ := hw _ hxm
    simp only at b0 b1 b2 b3
    refine ev_succ.1 ?_
    have e1 : ((p.length : Int) < (l.length : Int)) = True := by rw [← e]; exact c_lt _ _ _
    have e2 : rd_T58 l (p.length : Int) = x := by rw [← e]; exact rdE_at _ _ _
    simp only [spec_l8Groups.l2, e1, e2, c_nn, if_true, hg, show (0 ≤ x.f0) = True from eq_true b0, show (x.f0 < (n : Int)) = True from eq_true b1, show (0 ≤ x.f1) = True from eq_true b2, show (x.f1 < (n : Int)) = True from eq_true b3, spec_l1Least_eq, Option.bind_some, c_next p x t (by omega)]
    exact ih (p ++ [x]) (relax1 g (x.f0, x.f1)) (by rw [← e]; simp) (by rw [relax1_length]; exact hg) hc
theorem spec_l8Groups_out (n : Nat) (l : List S58) (hw : Within n (ends l)) (hb : l.length ≤ 1000000000) (hn : n ≤ 1000000000) : ∀ (d i : Nat) (g : List Int), i + d = n → g.length = n → Ev (fun k => spec_l8Groups.l1 k l g (n : Int) (i : Int)) (passes (ends l) d g) := by
  intro d
  induction d with
  | zero =>
    intro i g hi hg
    refine ev_succ.1 ?_
    simp only [spec_l8Groups.l1, show ((i : Int) < (n : Int)) = False from eq_false (by omega), if_false, ev_some, passes]
  | succ d ih =>
    intro i g hi hg
    refine ev_succ.1 ?_
    simp only [spec_l8Groups.l1, show ((i : Int) < (n : Int)) = True from eq_true (by omega), if_true, passes]
    refine spec_l8Groups_in n l hw hb (n : Int) (i : Int) _ l [] g rfl hg ?_
    rw [w64 (by omega) (by omega)]
    exact ih (i + 1) (pass (ends l) g) (by omega) (by rw [pass_length]; exact hg)
theorem spec_l8Groups_ev (n : Nat) (l : List S58) (hw : Within n (ends l)) (hb : l.length ≤ 1000000000) (hn : n ≤ 1000000000) : Ev (fun k => spec_l8Groups.f k (n : Int) l) (groupsV n (ends l)) := by
  have h : ∀ (d i : Nat), i + d = n → Ev (fun k => spec_l8Groups.l0 k (n : Int) l (initG i) (i : Int)) (groupsV n (ends l)) := by
    intro d
    induction d with
    | zero =>
      intro i hi
      obtain rfl : i = n := by omega
      refine ev_succ.1 ?_
      simp only [spec_l8Groups.l0, Int.lt_irrefl, if_false, initG_length]
      exact spec_l8Groups_out i l hw hb hn i 0 (initG i) (by omega) (initG_length i)
    | succ d ih =>
      intro i hi
      refine ev_succ.1 ?_
      simp only [spec_l8Groups.l0, show ((i : Int) < (n : Int)) = True from eq_true (by omega), if_true, initG_length, show (i < 17592186044416) = True from eq_true (by omega), w64 (n := (i : Int) + 1) (by omega) (by omega)]
      have := ih (i + 1) (by omega)
      rw [show initG (i + 1) = initG i ++ [(i : Int)] by simp [initG, List.range_succ]] at this
      exact this
  exact h n 0 (by omega)

theorem spec_l16Many_loop (t : List Int) : ∀ (p : List Int) (c : Nat), (p ++ t).length ≤ 1000000000 → c ≤ p.length → Ev (fun k => spec_l16Many.l0 k (c : Int) (p ++ t) ((p ++ t).length : Int) (p.length : Int)) ((c + rootsFrom p.length t : Nat) : Int) := by
  induction t with
  | nil =>
    intro p c _ _
    refine ev_succ.1 ?_
    simp only [spec_l16Many.l0, c_end, Int.lt_irrefl, if_false, ev_some, rootsFrom, Nat.add_zero]
  | cons x t ih =>
    intro p c hb hc
    have hpl : p.length ≤ 1000000000 := by simp at hb; omega
    refine ev_succ.1 ?_
    simp only [spec_l16Many.l0, c_lt, c_nn, c_rd, c_next p x t (by omega), if_true, ev_ite, w64 (n := (c : Int) + 1) (by omega) (by omega), rootsFrom]
    have h0 := ih (p ++ [x]) c (by rwa [← c_app]) (by simp; omega)
    have h1 := ih (p ++ [x]) (c + 1) (by rwa [← c_app]) (by simp; omega)
    rw [← c_app] at h0 h1
    by_cases h : x = (p.length : Int)
    · simp only [h, if_true]
      rw [h] at h1
      rw [show c + (1 + rootsFrom (p.length + 1) t) = c + 1 + rootsFrom (p.length + 1) t by omega]
      simpa using h1
    · simp only [h, if_false, Nat.zero_add]
      simpa using h0
theorem spec_l16Many_ev (n : Nat) (l : List S58) (hw : Within n (ends l)) (hb : l.length ≤ 1000000000) (hn : n ≤ 1000000000) : Ev (fun k => spec_l16Many.f k (n : Int) l) ((manyV n (ends l) : Nat) : Int) := by
  unfold spec_l16Many.f
  simp only [ev_bind (spec_l8Groups_ev n l hw hb hn)]
  have := spec_l16Many_loop (groupsV n (ends l)) [] 0 (by rw [List.nil_append, (groupsV_is hw).1.1]; exact hn) (by simp)
  simpa [manyV] using this

theorem spec_l8Without_eq (l : List S58) (i : Nat) (hi : i < l.length) (hb : l.length ≤ 1000000000) : spec_l8Without.f l (i : Int) = some (l.eraseIdx i) := by
  unfold spec_l8Without.f
  simp only [Option.bind_some, c_nn, if_true, Int.toNat_natCast, w64 (n := (i : Int) + 1) (by omega) (by omega), show ((i : Int) ≤ (l.length : Int)) = True from eq_true (by omega), show ((0 : Int) ≤ (i : Int) + 1) = True from eq_true (by omega), show ((i : Int) + 1 ≤ (l.length : Int)) = True from eq_true (by omega), List.nil_append, List.length_nil, List.length_take, Nat.zero_add, show (min i l.length < 5864062014805) = True from eq_true (by omega), List.length_drop, show (((i : Int) + 1)).toNat = i + 1 from by omega, show (min i l.length + (l.length - (i + 1)) < 5864062014805) = True from eq_true (by omega)]
  rw [List.eraseIdx_eq_take_drop_succ]

theorem spec_l16Edges_loop (n : Nat) (l : List S58) (hw : Within n (ends l)) (hb : l.length ≤ 1000000000) (hn : n ≤ 1000000000) : ∀ (d i : Nat) (o : List Int), i + d = l.length → o.length ≤ i → Ev (fun k => spec_l16Edges.l0 k (n : Int) l ((manyV n (ends l) : Nat) : Int) o (l.length : Int) (i : Int)) (o ++ cutFrom n (ends l) i d) := by
  intro d
  induction d with
  | zero =>
    intro i o hi ho
    refine ev_succ.1 ?_
    simp only [spec_l16Edges.l0, show ((i : Int) < (l.length : Int)) = False from eq_false (by omega), if_false, ev_some, cutFrom, List.append_nil]
  | succ d ih =>
    intro i o hi ho
    refine ev_succ.1 ?_
    have hm := spec_l16Many_ev n (l.eraseIdx i) (by rw [ends_erase]; exact within_erase hw i) (by rw [List.length_eraseIdx]; split <;> omega) hn
    simp only [spec_l16Edges.l0, show ((i : Int) < (l.length : Int)) = True from eq_true (by omega), if_true, spec_l8Without_eq l i (by omega) hb, Option.bind_some, ev_bind hm, ev_ite, show (o.length < 17592186044416) = True from eq_true (by omega), w64 (n := (i : Int) + 1) (by omega) (by omega), cutFrom, ends_erase]
    have h0 := ih (i + 1) o (by omega) (by omega)
    have h1 := ih (i + 1) (o ++ [(i : Int)]) (by omega) (by simp; omega)
    by_cases h : manyV n ((ends l).eraseIdx i) > manyV n (ends l)
    · simp only [h, if_true, show ((manyV n ((ends l).eraseIdx i) : Nat) : Int) > ((manyV n (ends l) : Nat) : Int) from by omega]
      simpa using h1
    · simp only [h, if_false, show ¬ ((manyV n ((ends l).eraseIdx i) : Nat) : Int) > ((manyV n (ends l) : Nat) : Int) from by omega]
      simpa using h0
theorem spec_l16Edges_ev (n : Nat) (l : List S58) (hw : Within n (ends l)) (hb : l.length ≤ 1000000000) (hn : n ≤ 1000000000) : Ev (fun k => spec_l16Edges.f k (n : Int) l) (cutL n (ends l)) := by
  unfold spec_l16Edges.f
  simp only [ev_bind (spec_l16Many_ev n l hw hb hn)]
  have := spec_l16Edges_loop n l hw hb hn l.length 0 [] (by omega) (by simp)
  simpa [cutL, ends] using this

theorem spec_IsFirm_ev (n : Int) (l : List S58) (h : l.length ≤ 1000000000) : Ev (fun k => spec_IsFirm.f k n l) (if goodE n (l.map trip) then (decide (cutL n.toNat (ends l) = []) && allB 0 0 (groupsV n.toNat (ends l)), true) else (false, false)) := by
  unfold spec_IsFirm.f
  simp only [ev_bind (spec_GoodEdges_ev n l (by omega)), ev_ite, ev_some]
  cases hg : goodE n (l.map trip)
  · simp
  · obtain ⟨m, rfl, h1, h2, hw, _⟩ := goodE_within hg
    simp only [if_true, Int.toNat_natCast, ev_bind (spec_l16Edges_ev m l hw h (by omega)), ev_bind (spec_l16Many_ev m l hw h (by omega)), ev_ite, ev_some]
    by_cases hc : cutL m (ends l) = []
    · have := many_one hw h1
      simp only [hc, List.length_nil, Int.ofNat_zero, Int.natCast_zero, if_true, decide_true, Bool.true_and, this]
    · have : ¬ ((cutL m (ends l)).length : Int) = 0 := by
        intro h0
        exact hc (List.eq_nil_of_length_eq_zero (by omega))
      simp [hc, this]

end Go.Proofs.Ytogpnannjpdllaa.Pure
