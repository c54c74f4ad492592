/- The plain statement behind the law FnExactIsFirm: for all arguments it answers true. -/
import Derived.Test.YtogpnannjpdllaaB0
import Derived.Test.YtogpnannjpdllaaF16
import Derived.Test.YtogpnannjpdllaaB1
import Derived.Test.YtogpnannjpdllaaB9
import Derived.Test.YtogpnannjpdllaaB10
import Derived.Test.YtogpnannjpdllaaB11
import Derived.Test.YtogpnannjpdllaaB14
import Derived.Test.YtogpnannjpdllaaB15
namespace Go.Proofs.Ytogpnannjpdllaa.Pure
open Go.RowKit Go.Proofs.Ytogpnannjpdllaa.P Go.Proofs.YtogpnannjpdllaaW.PrintWords Go.Proofs.Ytogpnannjpdllaa.Q
set_option linter.unusedVariables false
set_option linter.unusedSimpArgs false

theorem impl_groupsOf_ev (n : Nat) (l : List S58) (hw : Within n (ends l)) (hb : l.length ≤ 1000000000) (hn : n ≤ 1000000000) : Ev (fun k => impl_groupsOf.f k (n : Int) l) (groupsV n (ends l)) := by
  have hg := impl_groups_ev n (ends l) hw (by simpa [ends] using hb) hn
  have h : ∀ (t p : List S58), p ++ t = l → Ev (fun k => impl_groupsOf.l0 k (n : Int) (twos (ends p)) l (l.length : Int) (p.length : Int)) (groupsV n (ends l)) := by
    intro t
    induction t with
    | nil =>
      intro p e
      refine ev_succ.1 ?_
      have e1 : p = l := by rw [← e]; simp
      subst e1
      simp only [impl_groupsOf.l0, Int.lt_irrefl, if_false]
      simp only [ev_bind hg, ev_some]
    | cons x t ih =>
      intro p e
      have hb2 : (p ++ x :: t).length ≤ 1000000000 := by rw [e]; exact hb
      have hpl : p.length ≤ 1000000000 := by simp at hb2; omega
      refine ev_succ.1 ?_
      have e1 : ((p.length : Int) < (l.length : Int)) = True := by rw [← e]; exact c_lt _ _ _
      have e2 : rd_T58 l (p.length : Int) = x := by rw [← e]; exact rdE_at _ _ _
      have e3 : ((twos (ends p)).length < 5864062014805) = True := eq_true (by simp [twos, ends]; omega)
      simp only [impl_groupsOf.l0, e1, e2, e3, c_nn, if_true, c_next p x t (by omega)]
      have := ih (p ++ [x]) (by rw [← e]; simp)
      rw [show twos (ends (p ++ [x])) = twos (ends p) ++ [[x.f0, x.f1]] by simp [twos, ends]] at this
      exact this
  exact h l [] rfl

theorem impl_many_loop (t : List Int) : ∀ (p : List Int) (c : Nat), (p ++ t).length ≤ 1000000000 → c ≤ p.length → Ev (fun k => impl_many.l0 k (c : Int) (p ++ t) ((p ++ t).length : Int) (p.length : Int)) ((c + rootsFrom p.length t : Nat) : Int) := by
  induction t with
  | nil =>
    intro p c _ _
    refine ev_succ.1 ?_
    simp only [impl_many.l0, c_end, Int.lt_irrefl, if_false, ev_some, rootsFrom, Nat.add_zero]
  | cons x t ih =>
    intro p c hb hc
    have hpl : p.length ≤ 1000000000 := by simp at hb; omega
    refine ev_succ.1 ?_
    have hcm : ((p.length : Int) = x) = (x = (p.length : Int)) := propext ⟨Eq.symm, Eq.symm⟩
    simp only [impl_many.l0, hcm, c_lt, c_nn, c_rd, c_next p x t (by omega), if_true, ev_ite, w64 (n := (c : Int) + 1) (by omega) (by omega), rootsFrom]
    have h0 := ih (p ++ [x]) c (by rwa [← c_app]) (by simp; omega)
    have h1 := ih (p ++ [x]) (c + 1) (by rwa [← c_app]) (by simp; omega)
    rw [← c_app] at h0 h1
    by_cases h : x = (p.length : Int)
    · simp only [h, if_true]
      rw [h] at h1
      rw [show c + (1 + rootsFrom (p.length + 1) t) = c + 1 + rootsFrom (p.length + 1) t by omega]
      simpa using h1
    · simp only [h, if_false, Nat.zero_add]
      simpa using h0
theorem impl_many_ev (n : Nat) (l : List S58) (hw : Within n (ends l)) (hb : l.length ≤ 1000000000) (hn : n ≤ 1000000000) : Ev (fun k => impl_many.f k (n : Int) l) ((manyV n (ends l) : Nat) : Int) := by
  unfold impl_many.f
  simp only [ev_bind (impl_groupsOf_ev n l hw hb hn)]
  have := impl_many_loop (groupsV n (ends l)) [] 0 (by rw [List.nil_append, (groupsV_is hw).1.1]; exact hn) (by simp)
  simpa [manyV] using this

theorem slices_Index_int_int_loop (x1 : Int) (t : List Int) : ∀ p : List Int, (p ++ t).length ≤ 9223372036854775806 → Ev (fun k => slices_Index_int_int.l0 k (p ++ t) x1 ((p ++ t).length : Int) (p.length : Int)) (idxFrom x1 p.length t) := by
  induction t with
  | nil =>
    intro p _
    refine ev_succ.1 ?_
    simp only [slices_Index_int_int.l0, c_end, Int.lt_irrefl, if_false, ev_some, idxFrom]
  | cons x t ih =>
    intro p hb
    refine ev_succ.1 ?_
    have hn := ih (p ++ [x]) (by rwa [← c_app])
    rw [← c_app] at hn
    simp only [slices_Index_int_int.l0, c_lt, c_nn, c_rd, c_next p x t hb, if_true, ev_ite, ev_some, idxFrom]
    by_cases h : x1 = x
    · simp [h]
    · simpa [h] using hn
theorem slices_Index_int_int_ev (l : List Int) (x : Int) (h : l.length ≤ 9223372036854775806) : Ev (fun k => slices_Index_int_int.f k l x) (idxFrom x 0 l) := slices_Index_int_int_loop x l [] h

theorem slices_Contains_int_int_ev (l : List Int) (x : Int) (h : l.length ≤ 9223372036854775806) : Ev (fun k => slices_Contains_int_int.f k l x) (hasB x l) := by
  unfold slices_Contains_int_int.f
  simp only [ev_bind (slices_Index_int_int_ev l x h), ev_some]
  exact idxFrom_has x l 0

theorem impl_without_loop (cut : List Int) (hc : cut.length ≤ 1000000000) (t : List S58) : ∀ (p o : List S58), (p ++ t).length ≤ 1000000000 → o.length ≤ p.length → Ev (fun k => impl_without.l0 k cut o (p ++ t) ((p ++ t).length : Int) (p.length : Int)) (o ++ dropFrom cut p.length t) := by
  induction t with
  | nil =>
    intro p o _ _
    refine ev_succ.1 ?_
    simp only [impl_without.l0, c_end, Int.lt_irrefl, if_false, ev_some, dropFrom, List.append_nil]
  | cons x t ih =>
    intro p o hb ho
    have hpl : p.length ≤ 1000000000 := by simp at hb; omega
    refine ev_succ.1 ?_
    simp only [impl_without.l0, c_lt, c_nn, rdE_at, etaE, c_next p x t (by omega), if_true, ev_ite, ev_bind (slices_Contains_int_int_ev cut (p.length : Int) (by omega)), show (o.length < 5864062014805) = True from eq_true (by omega), dropFrom]
    have h0 := ih (p ++ [x]) o (by rwa [← c_app]) (by simp; omega)
    have h1 := ih (p ++ [x]) (o ++ [x]) (by rwa [← c_app]) (by simp; omega)
    rw [← c_app] at h0 h1
    cases hasB (p.length : Int) cut
    · simpa using h1
    · simpa using h0
theorem impl_without_ev (l : List S58) (cut : List Int) (hb : l.length ≤ 1000000000) (hc : cut.length ≤ 1000000000) : Ev (fun k => impl_without.f k l cut) (dropFrom cut 0 l) := by
  simpa [impl_without.f] using impl_without_loop cut hc l [] [] hb (by simp)

theorem impl_isCut_ev (n : Nat) (l : List S58) (i : Nat) (hw : Within n (ends l)) (hb : l.length ≤ 1000000000) (hn : n ≤ 1000000000) : Ev (fun k => impl_isCut.f k (n : Int) l (i : Int)) (decide (manyV n ((ends l).eraseIdx i) > manyV n (ends l))) := by
  unfold impl_isCut.f
  have hd := impl_without_ev l [(i : Int)] hb (by simp)
  have e := dropFrom_one l 0 i
  rw [Nat.zero_add] at e
  rw [e] at hd
  have hm := impl_many_ev n (l.eraseIdx i) (by rw [ends_erase]; exact within_erase hw i) (by rw [List.length_eraseIdx]; split <;> omega) hn
  simp only [ev_bind hd, ev_bind hm, ev_bind (impl_many_ev n l hw hb hn), ev_some, ends_erase]
  exact decide_eq_decide.2 (by omega)

theorem impl_cutEdges_loop (n : Nat) (l : List S58) (hw : Within n (ends l)) (hb : l.length ≤ 1000000000) (hn : n ≤ 1000000000) : ∀ (d i : Nat) (o : List Int), i + d = l.length → o.length ≤ i → Ev (fun k => impl_cutEdges.l0 k (n : Int) l o (l.length : Int) (i : Int)) (o ++ cutFrom n (ends l) i d) := by
  intro d
  induction d with
  | zero =>
    intro i o hi ho
    refine ev_succ.1 ?_
    simp only [impl_cutEdges.l0, show ((i : Int) < (l.length : Int)) = False from eq_false (by omega), if_false, ev_some, cutFrom, List.append_nil]
  | succ d ih =>
    intro i o hi ho
    refine ev_succ.1 ?_
    simp only [impl_cutEdges.l0, show ((i : Int) < (l.length : Int)) = True from eq_true (by omega), if_true, ev_bind (impl_isCut_ev n l i hw hb hn), ev_ite, show (o.length < 17592186044416) = True from eq_true (by omega), w64 (n := (i : Int) + 1) (by omega) (by omega), cutFrom, decide_eq_true_eq]
    have h0 := ih (i + 1) o (by omega) (by omega)
    have h1 := ih (i + 1) (o ++ [(i : Int)]) (by omega) (by simp; omega)
    by_cases h : manyV n ((ends l).eraseIdx i) > manyV n (ends l)
    · simp only [h, if_true]
      simpa using h1
    · simp only [h, if_false]
      simpa using h0
theorem impl_cutEdges_ev (n : Nat) (l : List S58) (hw : Within n (ends l)) (hb : l.length ≤ 1000000000) (hn : n ≤ 1000000000) : Ev (fun k => impl_cutEdges.f k (n : Int) l) (cutL n (ends l)) := by
  have := impl_cutEdges_loop n l hw hb hn l.length 0 [] (by omega) (by simp)
  simpa [impl_cutEdges.f, cutL, ends] using this

theorem impl_isOneGroup_ev (n : Nat) (l : List S58) (hw : Within n (ends l)) (hb : l.length ≤ 1000000000) (hn : n ≤ 1000000000) : Ev (fun k => impl_isOneGroup.f k (n : Int) l) (allB 0 0 (groupsV n (ends l))) := by
  unfold impl_isOneGroup.f
  simp only [ev_bind (impl_groupsOf_ev n l hw hb hn), ev_bind (impl_allIn_ev 0 0 (groupsV n (ends l)) (by rw [(groupsV_is hw).1.1]; omega)), ev_some]

theorem impl_IsFirm_ev (n : Int) (l : List S58) (h : l.length ≤ 1000000000) : Ev (fun k => impl_IsFirm.f k n l) (if goodE n (l.map trip) then (decide (cutL n.toNat (ends l) = []) && allB 0 0 (groupsV n.toNat (ends l)), true) else (false, false)) := by
  unfold impl_IsFirm.f
  simp only [ev_bind (impl_GoodEdges_ev n l (by omega)), ev_ite, ev_some]
  cases hg : goodE n (l.map trip)
  · simp
  · obtain ⟨m, rfl, h1, h2, hw, _⟩ := goodE_within hg
    simp only [if_true, Int.toNat_natCast, ev_bind (impl_cutEdges_ev m l hw h (by omega)), ev_bind (impl_isOneGroup_ev m l hw h (by omega)), ev_ite, ev_some]
    by_cases hc : cutL m (ends l) = []
    · simp [hc]
    · have : ¬ ((cutL m (ends l)).length : Int) = 0 := by
        intro h0
        exact hc (List.eq_nil_of_length_eq_zero (by omega))
      simp [hc, this]

theorem FnExactIsFirm (n : Int) (l0 : List S60) (_ : (Lit.int .i64 n).wf = true) (hl : l0.length ≤ maxLen ∧ ∀ y ∈ l0, G60 y) : ∃ k, laws_FnExactIsFirm.f k n l0 = some true := by
  refine Ev.rounds ?_
  unfold laws_FnExactIsFirm.f
  simp only [laws_szEdgeS_eq l0 hl.1, Option.bind_some]
  by_cases hbig : (l0.length : Int) > 1048576
  · simp only [hbig, if_true]; exact Ev.now _
  have hc : ¬ ((1048576 : Int) - (l0.length : Int) < 0) := by omega
  have hs : (l0.map toE).length ≤ 1048576 := by simp; omega
  have hto := laws_toEdgeS_ev l0 (by omega)
  simp only [hbig, hc, if_false, ev_bind hto]
  generalize l0.map toE = l at hs hto ⊢
  have hi := impl_IsFirm_ev n l (by omega)
  have hw := spec_IsFirm_ev n l (by omega)
  generalize (if goodE n (l.map trip) then (decide (cutL n.toNat (ends l) = []) && allB 0 0 (groupsV n.toNat (ends l)), true) else (false, false)) = v at hi hw
  obtain ⟨r1, r2⟩ := v
  simp only [ev_bind hto, ev_bind hw, ev_bind hi, bne_self_eq_false, Bool.false_eq_true, if_false]
  refine ev_succ.1 ?_
  simp only [laws_FnExactIsFirm.j0, Bool.false_eq_true, if_false, ev_bind hto, ev_bind (laws_eqEdgeS_ev l (by omega)), if_true]
  exact Ev.now _

end Go.Proofs.Ytogpnannjpdllaa.Pure
