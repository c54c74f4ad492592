/- The plain statement behind the law FnExactBranchesAt of the program: for all arguments the law answers true. -/
import Derived.Test.YtogpnannjpdllaaPFnExactBranchesAtx0
import Derived.Test.YtogpnannjpdllaaPFnExactBranchesAtx1
import Derived.Test.YtogpnannjpdllaaPFnExactBranchesAtx2
import Derived.Test.YtogpnannjpdllaaPFnExactBranchesAtx3
import Derived.Test.YtogpnannjpdllaaPFnExactBranchesAtx4
import Derived.Test.YtogpnannjpdllaaQBase
import Derived.Test.YtogpnannjpdllaaQTree
namespace Go.Proofs.Ytogpnannjpdllaa.Pure
open Go.RowKit Go.Proofs.Ytogpnannjpdllaa.PFnExactBranchesAt Go.Proofs.YtogpnannjpdllaaW.PrintWords Go.Proofs.Ytogpnannjpdllaa.Q
set_option linter.unusedVariables false
set_option linter.unusedSimpArgs false

/-! laws_toIntS -/
theorem laws_toIntS_loop (t : List Int) : ∀ p : List Int, (p ++ t).length ≤ 9223372036854775806 → Ev (fun k => laws_toIntS.l0 k (p ++ t) (p ++ List.replicate t.length 0) (p.length : Int)) (p ++ t) := by
  induction t with
  | nil =>
    intro p _
    refine ev_succ.1 ?_
    simp only [laws_toIntS.l0, c_end, Int.lt_irrefl, if_false, ev_some, List.length_nil, List.replicate_zero]
  | cons x t ih =>
    intro p hb
    refine ev_succ.1 ?_
    have e : p ++ List.replicate (x :: t).length 0 = p ++ 0 :: List.replicate t.length 0 := rfl
    simp only [laws_toIntS.l0, e, c_lt, c_nn, c_rd, c_set, c_next _ _ _ hb, if_true]
    rw [c_app p x t]
    exact ih (p ++ [x]) (by rwa [← c_app])
theorem laws_toIntS_ev (l : List Int) (h : l.length ≤ 35184372088832) : Ev (fun k => laws_toIntS.f k l) l := by
  unfold laws_toIntS.f
  simp only [Int.toNat_natCast, h, c_nn, if_true]
  exact laws_toIntS_loop l [] (by simp; omega)

/-! laws_eqIntS -/
theorem laws_eqIntS_loop (t : List Int) : ∀ p : List Int, (p ++ t).length ≤ 9223372036854775806 → Ev (fun k => laws_eqIntS.l0 k (p ++ t) (p ++ t) (p.length : Int)) true := by
  induction t with
  | nil =>
    intro p _
    refine ev_succ.1 ?_
    simp only [laws_eqIntS.l0, c_end, Int.lt_irrefl, if_false, ev_some]
  | cons x t ih =>
    intro p hb
    refine ev_succ.1 ?_
    simp only [laws_eqIntS.l0, c_lt, c_nn, c_next _ _ _ hb, if_true]
    rw [c_app p x t]
    exact ih (p ++ [x]) (by rwa [← c_app])
theorem laws_eqIntS_ev (l : List Int) (h : l.length ≤ 9223372036854775806) : Ev (fun k => laws_eqIntS.f k l l) true := by
  unfold laws_eqIntS.f
  simp only [if_true]
  exact laws_eqIntS_loop l [] h

/-! laws_markIntS -/
theorem laws_markIntS_loop (t : List Int) : ∀ (q : List Int) (a : Int), (q ++ t).length ≤ 9223372036854775806 → 0 ≤ a → a + t.length ≤ 9223372036854775807 → Ev (fun k => laws_markIntS.l0 k (q ++ t) a (q.length : Int)) (a + t.length, q ++ marks t.length a) := by
  induction t with
  | nil =>
    intro q a _ _ _
    refine ev_succ.1 ?_
    simp only [laws_markIntS.l0, c_end, Int.lt_irrefl, if_false, ev_some]
    simp [marks]
  | cons x t ih =>
    intro q a hb h0 h1
    refine ev_succ.1 ?_
    simp only [List.length_cons] at h1
    simp only [laws_markIntS.l0, c_lt, c_nn, c_set, c_next _ _ _ hb, if_true]
    rw [w64 (n := a + 1) (by omega) (by omega), show ((q ++ [x]).length : Int) = ((q ++ [a]).length : Int) by simp]
    have := ih (q ++ [a]) (a + 1) (by simpa using hb) (by omega) (by omega)
    rw [show a + ((x :: t).length : Int) = a + 1 + (t.length : Int) by simp; omega, show q ++ marks (x :: t).length a = (q ++ [a]) ++ marks t.length (a + 1) by simp [marks]]
    exact this
theorem laws_markIntS_ev (l : List Int) (a : Int) (h : l.length ≤ 9223372036854775806) (h0 : 0 ≤ a) (h1 : a + l.length ≤ 9223372036854775807) : Ev (fun k => laws_markIntS.f k l a) (a + l.length, marks l.length a) := laws_markIntS_loop l [] a h h0 h1

/-! laws_heldIntS -/
theorem laws_heldIntS_loop (n : Nat) : ∀ (p : List Int) (a : Int), p.length + n ≤ 9223372036854775806 → 0 ≤ a → a + n ≤ 9223372036854775807 → Ev (fun k => laws_heldIntS.l0 k (p ++ marks n a) a (p.length : Int)) (a + n) := by
  induction n with
  | zero =>
    intro p a _ _ _
    refine ev_succ.1 ?_
    simp only [laws_heldIntS.l0, marks, c_end, Int.lt_irrefl, if_false, ev_some]
    simp
  | succ n ih =>
    intro p a hb h0 h1
    refine ev_succ.1 ?_
    simp only [laws_heldIntS.l0, marks, c_lt, c_nn, c_rd, if_true]
    rw [w64 (n := a + 1) (by omega) (by omega), c_next p a (marks n (a + 1)) (by simp [marks_length]; omega), c_app p a (marks n (a + 1))]
    have := ih (p ++ [a]) (a + 1) (by simp; omega) (by omega) (by omega)
    rw [show a + ((n + 1 : Nat) : Int) = a + 1 + (n : Int) by omega]
    exact this
theorem laws_heldIntS_ev (n : Nat) (a : Int) (h : n ≤ 9223372036854775806) (h0 : 0 ≤ a) (h1 : a + n ≤ 9223372036854775807) : Ev (fun k => laws_heldIntS.f k (marks n a) a) (a + n) := by
  unfold laws_heldIntS.f
  exact laws_heldIntS_loop n [] a (by simpa using h) h0 h1

/-! spec_l1In -/
theorem spec_l1In_eq (a b c : Int) : spec_l1In.f a b c = some (inB b c a) := by
  unfold spec_l1In.f inB
  by_cases h1 : a ≥ b <;> by_cases h2 : a ≤ c <;> simp [h1, h2] <;> omega

/-! spec_GoodParents -/
theorem spec_GoodParents_in (ps : List Int) (hb : ps.length ≤ 1000000000) (x10 : List Int) (x11 x12 : Int) (b : Bool) (hc : Ev (fun k => spec_GoodParents.l0 k ps (ps.length : Int) x10 x11 (wrap64 (x12 + 1))) b) : ∀ (d s : Nat) (a : Int), s + d = ps.length → a < (ps.length : Int) → Ev (fun k => spec_GoodParents.l1 k ps (ps.length : Int) (s : Int) a x10 x11 x12) (endsB ps ((ps.length : Int) - 1) d a && b) := by
  intro d
  induction d with
  | zero =>
    intro s a hs ha
    refine ev_succ.1 ?_
    simp only [spec_GoodParents.l1, w64 (n := (s : Int) + 1) (by omega) (by omega), show ((s : Int) + 1 > (ps.length : Int)) = True from eq_true (by omega), if_true, ev_ite, ev_some, endsB]
    by_cases h0 : a ≥ 0
    · simp [h0, show ¬ a < 0 by omega]
    · simpa [h0, show a < 0 by omega] using hc
  | succ d ih =>
    intro s a hs ha
    refine ev_succ.1 ?_
    simp only [spec_GoodParents.l1, w64 (n := (s : Int) + 1) (by omega) (by omega), w64 (n := (ps.length : Int) - 1) (by omega) (by omega), show ((s : Int) + 1 > (ps.length : Int)) = False from eq_false (by omega), if_false, ev_ite, ev_some, endsB, spec_l1In_eq, Option.bind_some]
    by_cases h0 : a ≥ 0
    · simp only [h0, ha, if_true, show (0 ≤ a) = True from eq_true h0]
      cases hi : inB (-1) ((ps.length : Int) - 1) (rd ps a)
      · simp
      · have := inB_iff.1 hi
        have h := ih (s + 1) (rd ps a) (by omega) (by omega)
        simpa using h
    · simpa [h0] using hc
theorem spec_GoodParents_loop (ps : List Int) (hb : ps.length ≤ 1000000000) (t : List Int) : ∀ p : List Int, p ++ t = ps → Ev (fun k => spec_GoodParents.l0 k ps (ps.length : Int) ps (ps.length : Int) (p.length : Int)) (goodFrom ps ((ps.length : Int) - 1) p.length t && inB 1 12 (ps.length : Int)) := by
  induction t with
  | nil =>
    intro p e
    subst e
    refine ev_succ.1 ?_
    simp only [spec_GoodParents.l0, c_end, Int.lt_irrefl, if_false, ev_some, spec_l1In_eq, Option.bind_some, goodFrom, Bool.true_and]
  | cons x t ih =>
    intro p e
    have hl : (p ++ x :: t).length ≤ 1000000000 := by rw [e]; exact hb
    have hn := ih (p ++ [x]) (by rw [← e]; simp)
    refine ev_succ.1 ?_
    have e1 : ((p.length : Int) < (ps.length : Int)) = True := by rw [← e]; exact c_lt _ _ _
    have e2 : rd ps (p.length : Int) = x := by rw [← e]; exact c_rd _ _ _
    simp only [spec_GoodParents.l0, e1, e2, c_nn, if_true, spec_l1In_eq, Option.bind_some, ev_ite, ev_some, w64 (n := (ps.length : Int) - 1) (by omega) (by omega), goodFrom]
    cases inB (-1) ((ps.length : Int) - 1) x
    · simp
    · have h := spec_GoodParents_in ps hb ps (ps.length : Int) (p.length : Int) _ (by rw [c_next p x t (by omega)]; exact hn) ps.length 0 (p.length : Int) (by omega) (by rw [← e]; simp; omega)
      simpa [Bool.and_assoc] using h
theorem spec_GoodParents_ev (ps : List Int) (hb : ps.length ≤ 1000000000) : Ev (fun k => spec_GoodParents.f k ps) (goodP ps) := by
  have h := spec_GoodParents_loop ps hb ps [] rfl
  rw [show ([] : List Int).length = 0 from rfl, goodFrom_eq, Bool.and_comm] at h
  exact h

/-! spec_l10Two -/
theorem spec_l10Two_ev (ps : List Int) (a b : Int) (hb : ps.length ≤ 1000000000) : Ev (fun k => spec_l10Two.f k ps a b) (goodP ps && (inB 0 ((ps.length : Int) - 1) a && inB 0 ((ps.length : Int) - 1) b)) := by
  unfold spec_l10Two.f
  simp only [ev_bind (spec_GoodParents_ev ps hb), spec_l1In_eq, Option.bind_some, ev_ite, ev_some, w64 (n := (ps.length : Int) - 1) (by omega) (by omega)]
  cases goodP ps <;> cases inB 0 ((ps.length : Int) - 1) a <;> simp

/-! spec_l1Put -/
-- needs QTree
theorem spec_l1Put_loop (n : Int) (t : List Int) : ∀ p : List Int, (p ++ t).length ≤ 8796093022206 → Ev (fun k => spec_l1Put.l0 k (p ++ t) n (p.length : Int)) (p ++ putV t n) := by
  induction t with
  | nil =>
    intro p hb
    refine ev_succ.1 ?_
    rw [List.append_nil]
    have e1 : ((p.length : Int) ≤ (p.length : Int)) = True := eq_true (Int.le_refl _)
    have e2 : p.take ((p.length : Int)).toNat = p := by simp
    have e3 : p.drop ((p.length : Int)).toNat = [] := by simp
    have e4 : (p.length < 17592186044416) = True := eq_true (by simp at hb; omega)
    have e5 : ((p ++ [n]).length < 17592186044416) = True := eq_true (by simp at hb ⊢; omega)
    simp only [spec_l1Put.l0, c_end, Int.lt_irrefl, if_false, Option.bind_some, c_nn, if_true, e1, e2, e3, e4, e5, List.nil_append, List.length_nil, Nat.zero_add, Nat.add_zero, List.append_nil, ev_some, putV]
  | cons x t ih =>
    intro p hb
    refine ev_succ.1 ?_
    have e1 : ((p.length : Int) ≤ ((p ++ x :: t).length : Int)) = True := eq_true (by simp; omega)
    have e2 : (p ++ x :: t).take ((p.length : Int)).toNat = p := by simp
    have e3 : (p ++ x :: t).drop ((p.length : Int)).toNat = x :: t := by simp
    have e4 : (p.length < 17592186044416) = True := eq_true (by simp at hb; omega)
    have e5 : ((p ++ [n]).length + (x :: t).length < 17592186044416) = True := eq_true (by simp at hb ⊢; omega)
    simp only [spec_l1Put.l0, c_lt, c_nn, c_rd, c_next p x t (by omega), Option.bind_some, if_true, e1, e2, e3, e4, e5, List.nil_append, List.length_nil, Nat.zero_add, ev_ite, ev_some]
    have h1 := ih (p ++ [x]) (by rwa [← c_app])
    rw [← c_app] at h1
    by_cases h : x < n
    · simpa [h, putV] using h1
    · by_cases h2 : x = n <;> simp [h, h2, putV]
theorem spec_l1Put_ev (l : List Int) (n : Int) (h : l.length ≤ 8796093022206) : Ev (fun k => spec_l1Put.f k l n) (putV l n) := spec_l1Put_loop n l [] h

/-! spec_l10Joined -/
theorem spec_l10Joined_loop (ps : List Int) (a : Int) (h0 : 0 ≤ a) (h1 : a < (ps.length : Int)) (hb : ps.length ≤ 1000000000) (t : List Int) : ∀ (p o : List Int), p ++ t = ps → o.length ≤ p.length → (∀ y ∈ o, y < (p.length : Int)) → Ev (fun k => spec_l10Joined.l0 k ps a o ps (ps.length : Int) (p.length : Int)) (o ++ joinFrom ps a p.length t) := by
  induction t with
  | nil =>
    intro p o e _ _
    subst e
    refine ev_succ.1 ?_
    simp only [spec_l10Joined.l0, c_end, Int.lt_irrefl, if_false, ev_some, joinFrom, List.append_nil]
  | cons x t ih =>
    intro p o e ho hy
    have hl : (p ++ x :: t).length ≤ 1000000000 := by rw [e]; exact hb
    refine ev_succ.1 ?_
    have e1 : ((p.length : Int) < (ps.length : Int)) = True := by rw [← e]; exact c_lt _ _ _
    have e2 : rd ps (p.length : Int) = x := by rw [← e]; exact c_rd _ _ _
    have e3 : (0 ≤ a) = True := eq_true h0
    have e4 : (a < (ps.length : Int)) = True := eq_true h1
    have hpl : p.length ≤ 1000000000 := by simp at hl; omega
    have hput := spec_l1Put_ev o (p.length : Int) (by omega)
    rw [putV_last _ _ hy] at hput
    simp only [spec_l10Joined.l0, e1, e2, e3, e4, c_nn, if_true, ev_ite, ev_some, ev_bind hput, c_next p x t (by omega), joinFrom]
    have hn0 := ih (p ++ [x]) o (by rw [← e]; simp) (by simp; omega) (by intro y hyo; have := hy y hyo; simp; omega)
    have hn1 := ih (p ++ [x]) (o ++ [(p.length : Int)]) (by rw [← e]; simp) (by simp; omega) (by
      intro y hyo
      rcases List.mem_append.1 hyo with hyo | hyo
      · have := hy y hyo; simp; omega
      · rw [List.mem_singleton.1 hyo]; simp; omega)
    by_cases h2 : x = a
    · simpa [h2] using hn1
    · by_cases h3 : rd ps a = (p.length : Int)
      · simpa [h2, h3] using hn1
      · simpa [h2, h3] using hn0
theorem spec_l10Joined_ev (ps : List Int) (a : Int) (h0 : 0 ≤ a) (h1 : a < (ps.length : Int)) (hb : ps.length ≤ 1000000000) : Ev (fun k => spec_l10Joined.f k ps a) (joinL ps a) := by
  simpa [spec_l10Joined.f, joinL] using spec_l10Joined_loop ps a h0 h1 hb ps [] [] rfl (by simp) (by simp)

/-! spec_BranchesAt -/
theorem spec_BranchesAt_ev (ps : List Int) (a : Int) (hb : ps.length ≤ 1000000000) : Ev (fun k => spec_BranchesAt.f k ps a) (if goodP ps && inB 0 ((ps.length : Int) - 1) a then (joinL ps a, true) else ([], false)) := by
  unfold spec_BranchesAt.f
  simp only [ev_bind (spec_l10Two_ev ps a a hb), allB_cons, allB_nil, Bool.and_true, Bool.and_self, ev_ite, ev_some]
  cases goodP ps
  · simp
  · cases h : inB 0 ((ps.length : Int) - 1) a
    · simp
    · have := inB_iff.1 h
      simp only [ev_bind (spec_l10Joined_ev ps a (by omega) (by omega) hb)]
      simp [ev_some]

/-! impl_in -/
theorem impl_in_eq (a b c : Int) : impl_in.f a b c = some (inB b c a) := by
  unfold impl_in.f inB
  by_cases h1 : a ≥ b <;> by_cases h2 : a ≤ c <;> simp [h1, h2] <;> omega

/-! impl_allIn -/
theorem impl_allIn_loop (lo hi : Int) (t : List Int) : ∀ p : List Int, (p ++ t).length ≤ 9223372036854775806 → Ev (fun k => impl_allIn.l0 k lo hi (p ++ t) ((p ++ t).length : Int) (p.length : Int)) (allB lo hi t) := by
  induction t with
  | nil =>
    intro p _
    refine ev_succ.1 ?_
    simp only [impl_allIn.l0, c_end, Int.lt_irrefl, if_false, ev_some]
    simp [allB_nil]
  | cons x t ih =>
    intro p hb
    refine ev_succ.1 ?_
    have hn := ih (p ++ [x]) (by rwa [← c_app])
    simp only [impl_allIn.l0, c_lt, c_nn, c_rd, c_next _ _ _ hb, if_true, impl_in_eq, Option.bind_some, ev_ite, ev_some]
    rw [← c_app] at hn
    cases h1 : inB lo hi x
    · simp [h1, allB_cons]
    · simpa [h1, allB_cons] using hn
theorem impl_allIn_ev (lo hi : Int) (l : List Int) (h : l.length ≤ 9223372036854775806) : Ev (fun k => impl_allIn.f k l lo hi) (allB lo hi l) := impl_allIn_loop lo hi l [] h

/-! impl_isSpots -/
theorem impl_isSpots_eq (a : Int) : impl_isSpots.f a = some (inB 1 12 a) := by
  unfold impl_isSpots.f
  rw [impl_in_eq]; rfl

/-! impl_GoodParents -/
theorem impl_GoodParents_in (ps : List Int) (hb : ps.length ≤ 1000000000) (hall : allB (-1) ((ps.length : Int) - 1) ps = true) (x18 x19 : Int) (b : Bool) (hc : Ev (fun k => impl_GoodParents.l0 k ps x18 (wrap64 (x19 + 1))) b) : ∀ (d i : Nat) (a : Int), i + d = ps.length → a < (ps.length : Int) → Ev (fun k => impl_GoodParents.l1 k ps a x18 x19 (ps.length : Int) (i : Int)) (decide (upN ps d a < 0) && b) := by
  intro d
  induction d with
  | zero =>
    intro i a hi ha
    refine ev_succ.1 ?_
    simp only [impl_GoodParents.l1, show ((i : Int) < (ps.length : Int)) = False from eq_false (by omega), if_false, ev_ite, ev_some, upN]
    by_cases h0 : a ≥ 0
    · simp [h0, show ¬ a < 0 by omega]
    · simpa [h0, show a < 0 by omega] using hc
  | succ d ih =>
    intro i a hi ha
    refine ev_succ.1 ?_
    simp only [impl_GoodParents.l1, show ((i : Int) < (ps.length : Int)) = True from eq_true (by omega), if_true, ev_ite, ev_some, upN, w64 (n := (i : Int) + 1) (by omega) (by omega)]
    by_cases h0 : a ≥ 0
    · have hr := allB_iff.1 hall _ (rd_mem h0 ha)
      have h := ih (i + 1) (rd ps a) (by omega) (by omega)
      simp only [h0, ha, if_true, show (0 ≤ a) = True from eq_true h0]
      simpa using h
    · have h := ih (i + 1) a (by omega) ha
      simp only [h0, if_false]
      simpa using h
theorem impl_GoodParents_loop (ps : List Int) (hb : ps.length ≤ 1000000000) (hall : allB (-1) ((ps.length : Int) - 1) ps = true) : ∀ (d i : Nat), i + d = ps.length → Ev (fun k => impl_GoodParents.l0 k ps (ps.length : Int) (i : Int)) (upsB ps i d) := by
  intro d
  induction d with
  | zero =>
    intro i hi
    refine ev_succ.1 ?_
    simp only [impl_GoodParents.l0, show ((i : Int) < (ps.length : Int)) = False from eq_false (by omega), if_false, ev_some, upsB]
  | succ d ih =>
    intro i hi
    refine ev_succ.1 ?_
    simp only [impl_GoodParents.l0, show ((i : Int) < (ps.length : Int)) = True from eq_true (by omega), if_true, upsB]
    have hn := ih (i + 1) (by omega)
    have h := impl_GoodParents_in ps hb hall (ps.length : Int) (i : Int) _ (by rw [w64 (by omega) (by omega)]; exact hn) ps.length 0 (i : Int) (by omega) (by omega)
    exact h
theorem impl_GoodParents_ev (ps : List Int) (hb : ps.length ≤ 1000000000) : Ev (fun k => impl_GoodParents.f k ps) (goodP ps) := by
  unfold impl_GoodParents.f goodP
  simp only [impl_isSpots_eq, Option.bind_some, ev_bind (impl_allIn_ev (-1) (wrap64 ((ps.length : Int) - 1)) ps (by omega)), ev_ite]
  rw [w64 (n := (ps.length : Int) - 1) (by omega) (by omega)]
  have ht : Ev (fun k => impl_GoodParents.j0 k ps true) false := by
    refine ev_succ.1 ?_
    simp only [impl_GoodParents.j0, if_true]
    exact Ev.now _
  cases inB 1 12 (ps.length : Int)
  · simpa using ht
  · cases hall : allB (-1) ((ps.length : Int) - 1) ps
    · simpa using ht
    · have hf : Ev (fun k => impl_GoodParents.j0 k ps false) (upsB ps 0 ps.length) := by
        refine ev_succ.1 ?_
        simp only [impl_GoodParents.j0, Bool.false_eq_true, if_false]
        exact impl_GoodParents_loop ps hb hall ps.length 0 (by omega)
      simpa using hf

/-! impl_goodTree -/
theorem impl_goodTree_ev (ps l : List Int) (hb : ps.length ≤ 1000000000) (hl : l.length ≤ 1000000000) : Ev (fun k => impl_goodTree.f k ps l) (goodP ps && allB 0 ((ps.length : Int) - 1) l) := by
  unfold impl_goodTree.f
  simp only [ev_bind (impl_GoodParents_ev ps hb), ev_bind (impl_allIn_ev 0 (wrap64 ((ps.length : Int) - 1)) l (by omega)), ev_ite, ev_some]
  rw [w64 (n := (ps.length : Int) - 1) (by omega) (by omega)]
  cases goodP ps <;> simp

/-! impl_branches -/
theorem impl_branches_loop (ps : List Int) (a : Int) (h0 : 0 ≤ a) (h1 : a < (ps.length : Int)) (hb : ps.length ≤ 1000000000) (t : List Int) : ∀ (p o : List Int), p ++ t = ps → o.length ≤ p.length → Ev (fun k => impl_branches.l0 k ps a o ps (ps.length : Int) (p.length : Int)) (o ++ joinFrom ps a p.length t) := by
  induction t with
  | nil =>
    intro p o e _
    subst e
    refine ev_succ.1 ?_
    simp only [impl_branches.l0, c_end, Int.lt_irrefl, if_false, ev_some, joinFrom, List.append_nil]
  | cons x t ih =>
    intro p o e ho
    have hl : (p ++ x :: t).length ≤ 1000000000 := by rw [e]; exact hb
    refine ev_succ.1 ?_
    have e1 : ((p.length : Int) < (ps.length : Int)) = True := by rw [← e]; exact c_lt _ _ _
    have e2 : rd ps (p.length : Int) = x := by rw [← e]; exact c_rd _ _ _
    have e3 : (0 ≤ a) = True := eq_true h0
    have e4 : (a < (ps.length : Int)) = True := eq_true h1
    have hpl : p.length ≤ 1000000000 := by simp at hl; omega
    have e5 : (o.length < 17592186044416) = True := eq_true (by omega)
    simp only [impl_branches.l0, e1, e2, e3, e4, e5, c_nn, if_true, ev_ite, ev_some, c_next p x t (by omega), joinFrom]
    have hn0 := ih (p ++ [x]) o (by rw [← e]; simp) (by simp; omega)
    have hn1 := ih (p ++ [x]) (o ++ [(p.length : Int)]) (by rw [← e]; simp) (by simp; omega)
    by_cases h2 : x = a
    · simpa [h2] using hn1
    · by_cases h3 : rd ps a = (p.length : Int)
      · simpa [h2, h3] using hn1
      · simpa [h2, h3] using hn0
theorem impl_branches_ev (ps : List Int) (a : Int) (h0 : 0 ≤ a) (h1 : a < (ps.length : Int)) (hb : ps.length ≤ 1000000000) : Ev (fun k => impl_branches.f k ps a) (joinL ps a) := by
  simpa [impl_branches.f, joinL] using impl_branches_loop ps a h0 h1 hb ps [] [] rfl (by simp)

/-! impl_BranchesAt -/
theorem impl_BranchesAt_ev (ps : List Int) (a : Int) (hb : ps.length ≤ 1000000000) : Ev (fun k => impl_BranchesAt.f k ps a) (if goodP ps && inB 0 ((ps.length : Int) - 1) a then (joinL ps a, true) else ([], false)) := by
  unfold impl_BranchesAt.f
  simp only [ev_bind (impl_goodTree_ev ps [a] hb (by simp)), allB_cons, allB_nil, Bool.and_true, Bool.and_self, ev_ite, ev_some]
  cases goodP ps
  · simp
  · cases h : inB 0 ((ps.length : Int) - 1) a
    · simp
    · have := inB_iff.1 h
      simp only [ev_bind (impl_branches_ev ps a (by omega) (by omega) hb)]
      simp [ev_some]

/-! laws_FnExactBranchesAt -/
theorem FnExactBranchesAt (l : List Int) (a : Int) (hG : l.length ≤ maxLen ∧ ∀ y ∈ l, (Lit.int .i64 y).wf = true) (ha : (Lit.int .i64 a).wf = true) : ∃ k, laws_FnExactBranchesAt.f k l a = some true := by

  refine Ev.rounds ?_
  unfold laws_FnExactBranchesAt.f
  by_cases hbig : (l.length : Int) > 1048576
  · simp only [hbig, if_true]; exact Ev.now _
  have hs : l.length ≤ 1048576 := by omega
  have hv1 : (if goodP l && inB 0 ((l.length : Int) - 1) a then (joinL l a, true) else ([], false)).1.length ≤ 1048576 := by
    split
    · exact Nat.le_trans (joinFrom_length _ _ _ _) hs
    · simp
  simp only [hbig, if_false, ev_bind (laws_toIntS_ev l (by omega)), ev_bind (spec_BranchesAt_ev l a (by omega)), ev_bind (impl_BranchesAt_ev l a (by omega))]
  have hi := impl_BranchesAt_ev l a (by omega)
  generalize (if goodP l && inB 0 ((l.length : Int) - 1) a then (joinL l a, true) else ([], false)) = v at hv1 hi ⊢
  obtain ⟨r1, r2⟩ := v
  simp only at hv1
  simp only [ev_bind (laws_eqIntS_ev r1 (by omega)), if_true, bne_self_eq_false]
  refine ev_succ.1 ?_
  simp only [laws_FnExactBranchesAt.j0, Bool.false_eq_true, if_false, if_true, bne_self_eq_false, ev_bind (laws_toIntS_ev l (by omega)), ev_bind (laws_eqIntS_ev l (by omega)), ev_bind (laws_eqIntS_ev r1 (by omega)), ev_bind (laws_markIntS_ev l 1 (by omega) (by omega) (by omega)), show (1 + (l.length : Int) < 0) = False from eq_false (by omega)]
  refine ev_succ.1 ?_
  simp only [laws_FnExactBranchesAt.j1, Bool.false_eq_true, if_false, if_true, bne_self_eq_false, ev_bind (laws_markIntS_ev r1 1 (by omega) (by omega) (by omega)), ev_bind (laws_heldIntS_ev r1.length 1 (by omega) (by omega) (by omega)), show (1 + (r1.length : Int) < 0) = False from eq_false (by omega), ev_bind (laws_toIntS_ev l (by omega)), ev_bind hi, ev_bind (laws_eqIntS_ev r1 (by omega))]
  refine ev_succ.1 ?_
  simp only [laws_FnExactBranchesAt.j2, Bool.false_eq_true, if_false, if_true, bne_self_eq_false, ev_bind (laws_heldIntS_ev r1.length 1 (by omega) (by omega) (by omega)), show (1 + (r1.length : Int) < 0) = False from eq_false (by omega)]
  exact Ev.now _

end Go.Proofs.Ytogpnannjpdllaa.Pure
