/- What functions of the program answer, as plain functions: used by the laws of this claim. -/
import Derived.Test.YtolncjkfcmbieaaB0
import Derived.Test.YtolncjkfcmbieaaF55
import Derived.Test.YtolncjkfcmbieaaB9
import Derived.Test.YtolncjkfcmbieaaB31
import Derived.Test.YtolncjkfcmbieaaB47
import Derived.Test.YtolncjkfcmbieaaQTree
namespace Go.Proofs.Ytolncjkfcmbieaa.Pure
open Go.RowKit Go.Proofs.Ytolncjkfcmbieaa.P Go.Proofs.YtolncjkfcmbieaaW.PrintWords Go.Proofs.Ytolncjkfcmbieaa.Q
set_option linter.unusedVariables false
set_option linter.unusedSimpArgs false

theorem laws_szHopS_eq (l : List S166) (a : Int) (h : l.length ≤ maxLen) (h0 : 0 ≤ a) (h1 : a ≤ 1048576) : laws_szHopS.f l a = some (if (l.length : Int) > a then -1 else a - (l.length : Int)) := by
  unfold laws_szHopS.f
  unfold maxLen at h
  rw [w64 (by omega) (by omega)]
  split <;> split <;> first | rfl | omega

-- needs QTree
theorem putV_mem (n x : Int) : ∀ l : List Int, x ∈ putV l n ↔ x = n ∨ x ∈ l
  | [] => by simp [putV]
  | y :: t => by
    unfold putV
    by_cases h1 : y < n
    · rw [if_pos h1]
      simp only [List.mem_cons, putV_mem n x t]
      constructor
      · rintro (h | h | h)
        · exact .inr (.inl h)
        · exact .inl h
        · exact .inr (.inr h)
      · rintro (h | h | h)
        · exact .inr (.inl h)
        · exact .inl h
        · exact .inr (.inr h)
    · rw [if_neg h1]
      by_cases h2 : y = n
      · rw [if_pos h2]
        simp only [List.mem_cons]
        constructor
        · rintro (h | h)
          · exact .inr (.inl h)
          · exact .inr (.inr h)
        · rintro (h | h | h)
          · exact .inl (h.trans h2.symm)
          · exact .inl h
          · exact .inr h
      · rw [if_neg h2]; simp only [List.mem_cons]
theorem putV_sorted (n : Int) : ∀ l : List Int, l.Pairwise (fun a b => a < b) → (putV l n).Pairwise (fun a b => a < b)
  | [], _ => by simp [putV]
  | y :: t, h => by
    obtain ⟨h1, h2⟩ := List.pairwise_cons.1 h
    unfold putV
    by_cases h3 : y < n
    · rw [if_pos h3]
      refine List.pairwise_cons.2 ⟨fun z hz => ?_, putV_sorted n t h2⟩
      rcases (putV_mem n z t).1 hz with rfl | hz
      · exact h3
      · exact h1 z hz
    · rw [if_neg h3]
      by_cases h4 : y = n
      · rw [if_pos h4]; exact h
      · rw [if_neg h4]
        refine List.pairwise_cons.2 ⟨fun z hz => ?_, h⟩
        rcases List.mem_cons.1 hz with rfl | hz
        · omega
        · have := h1 z hz; omega
theorem putV_same (n : Int) : ∀ l : List Int, l.Pairwise (fun a b => a < b) → n ∈ l → putV l n = l
  | [], _, hm => by cases hm
  | y :: t, h, hm => by
    obtain ⟨h1, h2⟩ := List.pairwise_cons.1 h
    unfold putV
    rcases List.mem_cons.1 hm with rfl | hm
    · rw [if_neg (by omega), if_pos rfl]
    · rw [if_pos (h1 n hm), putV_same n t h2 hm]
theorem putV_perm (n : Int) : ∀ l : List Int, n ∉ l → (putV l n).Perm (l ++ [n])
  | [], _ => by simp [putV]
  | y :: t, h => by
    have hy : ¬ y = n := fun e => h (by simp [e])
    unfold putV
    by_cases h1 : y < n
    · rw [if_pos h1]
      exact (putV_perm n t (fun hm => h (by simp [hm]))).cons y
    · rw [if_neg h1, if_neg hy]
      exact (List.perm_append_comm (l₁ := [n]) (l₂ := y :: t))
/-- A hop between two unlike spots. -/
def hopB (h : S162) : Bool := inB 0 11 h.f0 && (inB 0 11 h.f1 && decide (h.f0 ≠ h.f1))
/-- What hops lead to, each put behind what is there. -/
def implR : List Int → List S162 → List Int
  | o, [] => o
  | o, h :: t => if hasB h.f0 o = true then (if hasB h.f1 o = true then implR o t else implR (o ++ [h.f1]) t) else implR o t
/-- .. each put to its place. -/
def specR : List Int → List S162 → List Int
  | o, [] => o
  | o, h :: t => if hasB h.f0 o = true then specR (putV o h.f1) t else specR o t
theorem specR_length : ∀ (l : List S162) (o : List Int), (specR o l).length ≤ o.length + l.length
  | [], o => by simp [specR]
  | h :: t, o => by
    have h1 := specR_length t o
    have h2 := specR_length t (putV o h.f1)
    have h3 := putV_length h.f1 o
    unfold specR
    simp only [List.length_cons]
    split <;> omega
theorem hasB_perm {o s : List Int} (h : o.Perm s) (x : Int) : hasB x o = hasB x s := by
  rw [Bool.eq_iff_iff, hasB_iff, hasB_iff]
  exact h.mem_iff
theorem reach_same : ∀ (l : List S162) (o s : List Int), o.Perm s → s.Pairwise (fun a b => a < b) → ((implR o l).mergeSort fun x y => decide (x ≤ y)) = specR s l
  | [], o, s, h, hs => sort_of_perm h hs
  | x :: t, o, s, h, hs => by
    unfold implR specR
    rw [hasB_perm h x.f0, hasB_perm h x.f1]
    cases h0 : hasB x.f0 s
    · simp only [Bool.false_eq_true, if_false]
      exact reach_same t o s h hs
    · simp only [if_true]
      cases h1 : hasB x.f1 s
      · simp only [Bool.false_eq_true, if_false]
        have hn : x.f1 ∉ s := fun hm => by rw [hasB_iff.2 hm] at h1; cases h1
        exact reach_same t _ _ ((h.append_right _).trans (putV_perm _ _ hn).symm) (putV_sorted _ _ hs)
      · simp only [if_true]
        rw [putV_same _ _ hs (hasB_iff.1 h1)]
        exact reach_same t o s h hs
theorem implR_length : ∀ (l : List S162) (o : List Int), (implR o l).length ≤ o.length + l.length
  | [], o => by simp [implR]
  | h :: t, o => by
    have h1 := implR_length t o
    have h2 := implR_length t (o ++ [h.f1])
    simp only [List.length_append, List.length_cons, List.length_nil] at h2
    unfold implR
    simp only [List.length_cons]
    split
    · split <;> omega
    · omega
theorem impl_reached_loop (t : List S162) : ∀ (p : List S162) (o : List Int), (p ++ t).length ≤ 100000000 → o.length ≤ p.length + 1 → Ev (fun k => impl_reached.l0 k o (p ++ t) ((p ++ t).length : Int) (p.length : Int)) ((implR o t).mergeSort fun x y => decide (x ≤ y)) := by
  induction t with
  | nil =>
    intro p o hb ho
    refine ev_succ.1 ?_
    simp only [List.append_nil] at hb
    simp only [impl_reached.l0, c_end, Int.lt_irrefl, if_false, slices_Sort_int_int_eq o (by omega), Option.bind_some, ev_some, implR]
  | cons x t ih =>
    intro p o hb ho
    have hpl : p.length ≤ 100000000 := by simp at hb; omega
    refine ev_succ.1 ?_
    simp only [impl_reached.l0, c_lt, c_nn, rdHop_at, c_next p x t (by omega), if_true, ev_bind (slices_Contains_int_int_ev o x.f0 (by omega)), ev_bind (slices_Contains_int_int_ev o x.f1 (by omega)), show (o.length < 17592186044416) = True from eq_true (by omega), ev_ite, implR]
    have hn0 := ih (p ++ [x]) o (by rwa [← c_app]) (by simp; omega)
    have hn1 := ih (p ++ [x]) (o ++ [x.f1]) (by rwa [← c_app]) (by simp; omega)
    rw [← c_app] at hn0 hn1
    cases hasB x.f0 o
    · simpa using hn0
    · cases hasB x.f1 o
      · simpa using hn1
      · simpa using hn0
theorem impl_reached_ev (l : List S162) (a : Int) (h : l.length ≤ 100000000) : Ev (fun k => impl_reached.f k l a) (specR [a] l) := by
  have := impl_reached_loop l [] [a] h (by simp)
  rw [reach_same l [a] [a] (List.Perm.refl _) (by simp)] at this
  exact this

theorem spec_ReachedBy_loop1 (t : List S162) : ∀ (p : List S162) (o : List Int), (p ++ t).length ≤ 100000000 → o.length ≤ p.length + 1 → Ev (fun k => spec_ReachedBy.l1 k o (p ++ t) ((p ++ t).length : Int) (p.length : Int)) (specR o t, true) := by
  induction t with
  | nil =>
    intro p o hb ho
    refine ev_succ.1 ?_
    simp only [spec_ReachedBy.l1, c_end, Int.lt_irrefl, if_false, ev_some, specR]
  | cons x t ih =>
    intro p o hb ho
    have hpl : p.length ≤ 100000000 := by simp at hb; omega
    have hput := putV_length x.f1 o
    refine ev_succ.1 ?_
    simp only [spec_ReachedBy.l1, c_lt, c_nn, rdHop_at, c_next p x t (by omega), if_true, ev_bind (spec_l1Has_ev o x.f0 (by omega)), ev_bind (spec_l1Put_ev o x.f1 (by omega)), ev_ite, specR]
    have hn0 := ih (p ++ [x]) o (by rwa [← c_app]) (by simp; omega)
    have hn1 := ih (p ++ [x]) (putV o x.f1) (by rwa [← c_app]) (by simp; omega)
    rw [← c_app] at hn0 hn1
    cases hasB x.f0 o
    · simpa using hn0
    · simpa using hn1
theorem spec_ReachedBy_loop (l : List S162) (a : Int) (hl : l.length ≤ 100000000) (t : List S162) : ∀ p : List S162, p ++ t = l → Ev (fun k => spec_ReachedBy.l0 k l a l (l.length : Int) (p.length : Int)) (if t.all hopB = true then (if (decide (l.length ≤ 40) && inB 0 11 a) = true then (specR [a] l, true) else ([], false)) else ([], false)) := by
  induction t with
  | nil =>
    intro p e
    refine ev_succ.1 ?_
    subst e
    simp only [List.append_nil] at hl
    have ht : Ev (fun k => spec_ReachedBy.j1 k p a true) ([], false) := by
      refine ev_succ.1 ?_
      simp only [spec_ReachedBy.j1, if_true]
      exact Ev.now _
    have hf : Ev (fun k => spec_ReachedBy.j1 k p a false) (specR [a] p, true) := by
      refine ev_succ.1 ?_
      simp only [spec_ReachedBy.j1, Bool.false_eq_true, if_false]
      exact spec_ReachedBy_loop1 p [] [a] hl (by simp)
    simp only [spec_ReachedBy.l0, List.append_nil, Int.lt_irrefl, if_false, spec_l1In_eq, Option.bind_some, List.all_nil, if_true, ev_ite]
    by_cases h : p.length ≤ 40
    · have h' : ¬ ((p.length : Int) > 40) := by omega
      simp only [h', if_false, decide_eq_true h, Bool.true_and]
      cases inB 0 11 a
      · simpa using ht
      · simpa using hf
    · have h' : (p.length : Int) > 40 := by omega
      simp only [h', if_true, decide_eq_false h, Bool.false_and, Bool.false_eq_true, if_false]
      exact ht
  | cons x t ih =>
    intro p e
    have hb : (p ++ x :: t).length ≤ 100000000 := by rw [e]; exact hl
    have e1 : ((p.length : Int) < (l.length : Int)) = True := by rw [← e]; exact c_lt _ _ _
    have e2 : rd_T162 l (p.length : Int) = x := by rw [← e]; exact rdHop_at _ _ _
    refine ev_succ.1 ?_
    simp only [spec_ReachedBy.l0, e1, e2, c_nn, c_next p x t (by omega), if_true, spec_l1In_eq, Option.bind_some, ev_ite, ev_some, List.all_cons, hopB]
    have hn := ih (p ++ [x]) (by rw [← e]; simp)
    rcases Bool.eq_false_or_eq_true (inB 0 11 x.f0) with h0 | h0
    · rcases Bool.eq_false_or_eq_true (inB 0 11 x.f1) with h1 | h1
      · by_cases h : x.f0 = x.f1
        · simp [h0, h1, h]
        · simpa [h0, h1, h] using hn
      · simp [h0, h1]
    · simp [h0]
theorem spec_ReachedBy_ev (l : List S162) (a : Int) (hl : l.length ≤ 100000000) : Ev (fun k => spec_ReachedBy.f k l a) (if (decide (l.length ≤ 40) && (inB 0 11 a && l.all hopB)) = true then (specR [a] l, true) else ([], false)) := by
  have h := spec_ReachedBy_loop l a hl l [] rfl
  have e : (if l.all hopB = true then (if (decide (l.length ≤ 40) && inB 0 11 a) = true then (specR [a] l, true) else ([], false)) else ([], false)) = (if (decide (l.length ≤ 40) && (inB 0 11 a && l.all hopB)) = true then (specR [a] l, true) else (([] : List Int), false)) := by
    cases l.all hopB <;> cases inB 0 11 a <;> simp
  rw [e] at h
  exact h


theorem laws_toHopS_loop (t : List S166) : ∀ (p : List S166), (p ++ t).length ≤ 9223372036854775806 → Ev (fun k => laws_toHopS.l0 k (p ++ t) (p.map toHop ++ List.replicate t.length z162) (p.length : Int)) ((p ++ t).map toHop) := by
  induction t with
  | nil =>
    intro p _
    refine ev_succ.1 ?_
    simp only [laws_toHopS.l0, c_end, Int.lt_irrefl, if_false, ev_some, List.length_nil, List.replicate_zero, List.append_nil]
  | cons x t ih =>
    intro p hb
    refine ev_succ.1 ?_
    have e : p.map toHop ++ List.replicate (x :: t).length z162 = p.map toHop ++ z162 :: List.replicate t.length z162 := rfl
    have e2 : (p.length : Int) = ((p.map toHop).length : Int) := by simp
    have e3 : (p.length : Int) < ((p.map toHop ++ z162 :: List.replicate t.length z162).length : Int) := by simp; omega
    have e4 : ∀ y, (p.map toHop ++ z162 :: List.replicate t.length z162).set ((p.length : Int)).toNat y = (p.map toHop ++ [y]) ++ List.replicate t.length z162 := by intro y; rw [e2]; exact c_set _ _ _ _
    simp only [laws_toHopS.l0, laws_toHop.f, e, e3, e4, c_lt, c_nn, rdLHop_at, c_next _ _ _ hb, if_true, Option.bind_some]
    have := ih (p ++ [x]) (by rwa [← c_app])
    rw [← c_app, List.map_append] at this
    exact this
theorem laws_toHopS_ev (l : List S166) (h : l.length ≤ 17592186044416) : Ev (fun k => laws_toHopS.f k l) (l.map toHop) := by
  unfold laws_toHopS.f
  simp only [Int.toNat_natCast, h, c_nn, if_true]
  exact laws_toHopS_loop l [] (by simp; omega)

theorem impl_isSpot_eq (a : Int) : impl_isSpot.f a = some (inB 0 11 a) := by
  unfold impl_isSpot.f
  rw [impl_in_eq]; rfl

theorem impl_ReachedBy_loop (l : List S162) (a : Int) (hl : l.length ≤ 100000000) (t : List S162) : ∀ p : List S162, p ++ t = l → Ev (fun k => impl_ReachedBy.l0 k l a l (l.length : Int) (p.length : Int)) (if t.all hopB = true then (specR [a] l, true) else ([], false)) := by
  induction t with
  | nil =>
    intro p e
    refine ev_succ.1 ?_
    subst e
    simp only [List.append_nil] at hl
    simp only [impl_ReachedBy.l0, c_end, List.append_nil, Int.lt_irrefl, if_false, ev_bind (impl_reached_ev p a hl), ev_some, List.all_nil, if_true]
  | cons x t ih =>
    intro p e
    have hb : (p ++ x :: t).length ≤ 100000000 := by rw [e]; exact hl
    have e1 : ((p.length : Int) < (l.length : Int)) = True := by rw [← e]; exact c_lt _ _ _
    have e2 : rd_T162 l (p.length : Int) = x := by rw [← e]; exact rdHop_at _ _ _
    refine ev_succ.1 ?_
    simp only [impl_ReachedBy.l0, e1, e2, c_nn, c_next p x t (by omega), if_true, impl_isSpot_eq, Option.bind_some, ev_ite, ev_some, List.all_cons, hopB]
    have hn := ih (p ++ [x]) (by rw [← e]; simp)
    rcases Bool.eq_false_or_eq_true (inB 0 11 x.f0) with h0 | h0
    · rcases Bool.eq_false_or_eq_true (inB 0 11 x.f1) with h1 | h1
      · by_cases h : x.f0 = x.f1
        · simp [h0, h1, h]
        · simpa [h0, h1, h] using hn
      · simp [h0, h1]
    · simp [h0]
theorem impl_ReachedBy_ev (l : List S162) (a : Int) (hl : l.length ≤ 100000000) : Ev (fun k => impl_ReachedBy.f k l a) (if (decide (l.length ≤ 40) && (inB 0 11 a && l.all hopB)) = true then (specR [a] l, true) else ([], false)) := by
  unfold impl_ReachedBy.f
  have ht : Ev (fun k => impl_ReachedBy.j0 k l a true) ([], false) := by
    refine ev_succ.1 ?_
    simp only [impl_ReachedBy.j0, if_true]
    exact Ev.now _
  have hf : Ev (fun k => impl_ReachedBy.j0 k l a false) (if l.all hopB = true then (specR [a] l, true) else ([], false)) := by
    refine ev_succ.1 ?_
    simp only [impl_ReachedBy.j0, Bool.false_eq_true, if_false]
    exact impl_ReachedBy_loop l a hl l [] rfl
  simp only [impl_isSpot_eq, Option.bind_some, ev_ite]
  by_cases h : l.length ≤ 40
  · have h' : ¬ ((l.length : Int) > 40) := by omega
    simp only [h', if_false, decide_eq_true h, Bool.true_and]
    cases inB 0 11 a
    · simpa using ht
    · simpa using hf
  · have h' : (l.length : Int) > 40 := by omega
    simp only [h', if_true, decide_eq_false h, Bool.false_and, Bool.false_eq_true, if_false]
    exact ht


end Go.Proofs.Ytolncjkfcmbieaa.Pure
