/- What functions of the program answer, as plain functions: used by the laws of this claim. -/
import Derived.Test.YtpohlcjkabojcaaB0
import Derived.Test.YtpohlcjkabojcaaF11
import Derived.Test.YtpohlcjkabojcaaB2
import Derived.Test.YtpohlcjkabojcaaB5
import Derived.Test.YtpohlcjkabojcaaQHaves
namespace Go.Proofs.Ytpohlcjkabojcaa.Pure
open Go.RowKit Go.Proofs.Ytpohlcjkabojcaa.P Go.Proofs.YtpohlcjkabojcaaW.PrintWords Go.Proofs.Ytpohlcjkabojcaa.Q
set_option linter.unusedVariables false
set_option linter.unusedSimpArgs false

theorem idx_or (a : Int) : ∀ (l : List Int) (i : Nat), (idxFrom a i l = -1 ∧ a ∉ l) ∨ ∃ j : Nat, ∃ h : j < l.length, idxFrom a i l = ((i + j : Nat) : Int) ∧ l[j] = a
  | [], i => .inl ⟨rfl, by simp⟩
  | x :: t, i => by
    unfold idxFrom
    by_cases h : a = x
    · rw [if_pos h]
      exact .inr ⟨0, by simp, by simp, by simp [h]⟩
    · rw [if_neg h]
      rcases idx_or a t (i + 1) with ⟨h1, h2⟩ | ⟨j, hj, h1, h2⟩
      · exact .inl ⟨h1, by simp [h, h2]⟩
      · exact .inr ⟨j + 1, by simp; omega, by rw [h1]; congr 1; omega, by simpa using h2⟩
/-- The place of a host in the list, -1 for none. -/
def idxP (h : List S130) (a : Int) : Int := idxFrom a 0 (h.map fun q => q.f0)
theorem rdPlace_nat {h : List S130} {j : Nat} (hj : j < h.length) : rd_T130 h (j : Int) = h[j] := by
  simp [rd_T130, List.getD_eq_getElem?_getD, hj]
theorem idxP_or (h : List S130) (a : Int) : (idxP h a = -1 ∧ ∀ p ∈ h, p.f0 ≠ a) ∨ ∃ j : Nat, ∃ hj : j < h.length, idxP h a = (j : Int) ∧ h[j].f0 = a := by
  rcases idx_or a (h.map fun q => q.f0) 0 with ⟨h1, h2⟩ | ⟨j, hj, h1, h2⟩
  · exact .inl ⟨h1, fun p hp e => h2 (List.mem_map.2 ⟨p, hp, e⟩)⟩
  · exact .inr ⟨j, by simpa using hj, by simpa [idxP] using h1, by simpa using h2⟩
/-- The spot of a host, false where it is not there. -/
def spotP (h : List S130) (a : Int) : Int × Bool := if idxP h a < 0 then (0, false) else ((rd_T130 h (idxP h a)).f1, true)
theorem spotP_mem {h : List S130} {a : Int} (hs : (spotP h a).2 = true) : ∃ p ∈ h, (spotP h a).1 = p.f1 := by
  unfold spotP at hs ⊢
  rcases idxP_or h a with ⟨h1, _⟩ | ⟨j, hj, h1, _⟩
  · rw [h1] at hs; simp at hs
  · rw [h1, if_neg (by omega), rdPlace_nat hj]
    exact ⟨h[j], List.getElem_mem hj, rfl⟩
theorem spec_l17Find_loop (a : Int) (t : List S130) : ∀ p : List S130, (p ++ t).length ≤ 1000000000 → Ev (fun k => spec_l17Find.l0 k a (p ++ t) ((p ++ t).length : Int) (p.length : Int)) (idxFrom a p.length (t.map fun q => q.f0)) := by
  induction t with
  | nil =>
    intro p _
    refine ev_succ.1 ?_
    simp only [spec_l17Find.l0, c_end, Int.lt_irrefl, if_false, ev_some, List.map_nil, idxFrom]
  | cons x t ih =>
    intro p hb
    refine ev_succ.1 ?_
    have hn := ih (p ++ [x]) (by rwa [← c_app])
    rw [← c_app] at hn
    simp only [spec_l17Find.l0, c_lt, c_nn, rdPlace_at, c_next p x t (by omega), if_true, ev_ite, ev_some, List.map_cons, idxFrom]
    by_cases h : x.f0 = a
    · simp [h]
    · rw [if_neg h, if_neg (fun e => h e.symm)]
      simpa using hn
theorem spec_l17Find_ev (n : Int) (l : List S86) (d : List Int) (h : List S130) (a : Int) (hb : h.length ≤ 1000000000) : Ev (fun k => spec_l17Find.f k n l d h a) (idxP h a) := by
  have := spec_l17Find_loop a h [] (by simpa using hb)
  simpa [spec_l17Find.f, idxP] using this

theorem spec_l17Spots_ev (n : Int) (l : List S86) (d : List Int) (h : List S130) (a b : Int) (hl : l.length ≤ 1000000000) (hd : d.length ≤ 1000000000) (hh : plSize h ≤ 1000000000) : Ev (fun k => spec_l17Spots.f k n l d h a b) (if goodC n (l.map trip) d (h.map pl3) = true then (if (spotP h a).2 = true then (if (spotP h b).2 = true then ((spotP h a).1, (spotP h b).1, true) else (0, 0, false)) else (0, 0, false)) else (0, 0, false)) := by
  have hb := (plSize_mem h _ hh).1
  unfold spec_l17Spots.f
  simp only [ev_bind (spec_l17Find_ev n l d h a hb), ev_bind (spec_l17Find_ev n l d h b hb), ev_bind (spec_GoodCampus_ev n l d h hl hd hh)]
  cases goodC n (l.map trip) d (h.map pl3)
  · simp only [Bool.false_eq_true, if_false]; exact Ev.now _
  · simp only [if_true]
    rcases idxP_or h a with ⟨h1, _⟩ | ⟨j, hj, h1, _⟩
    · have e1 : spotP h a = (0, false) := by unfold spotP; rw [if_pos (by omega)]
      simp only [h1, e1, show ((-1 : Int) < 0) = True from eq_true (by omega), if_true, Bool.false_eq_true, if_false]; exact Ev.now _
    · have e1 : spotP h a = ((rd_T130 h (j : Int)).f1, true) := by unfold spotP; rw [if_neg (by omega), h1]
      simp only [h1, e1, show ((j : Int) < 0) = False from eq_false (by omega), if_false, if_true, show (0 ≤ (j : Int)) = True from eq_true (by omega), show ((j : Int) < (h.length : Int)) = True from eq_true (by omega)]
      rcases idxP_or h b with ⟨h2, _⟩ | ⟨i, hi, h2, _⟩
      · have e2 : spotP h b = (0, false) := by unfold spotP; rw [if_pos (by omega)]
        simp only [h2, e2, show ((-1 : Int) < 0) = True from eq_true (by omega), if_true, Bool.false_eq_true, if_false]; exact Ev.now _
      · have e2 : spotP h b = ((rd_T130 h (i : Int)).f1, true) := by unfold spotP; rw [if_neg (by omega), h2]
        simp only [h2, e2, show ((i : Int) < 0) = False from eq_false (by omega), if_false, if_true, show (0 ≤ (i : Int)) = True from eq_true (by omega), show ((i : Int) < (h.length : Int)) = True from eq_true (by omega)]
        exact Ev.now _

theorem spec_l1Least_eq (a b : Int) : spec_l1Least.f a b = some (min a b) := by
  unfold spec_l1Least.f
  split
  · rw [show min a b = a by omega]
  · rw [show min a b = b by omega]

theorem impl_Campus_hostLit1_eq (a s : Int) (g : List Int) (x : Int) : impl_Campus_hostLit1.f a s g x = some (wrap64 (a - x)) := rfl

/-- What is looked for is at i. -/
theorem impl_Place_int_found (h : List S130) (a : Int) (hb : h.length ≤ 1000000) (i : Nat) (hil : i < h.length) (hz : wrap64 ((rd_T130 h (i : Int)).f0 - a) = 0) (hlow : ∀ q : Nat, q < i → wrap64 ((rd_T130 h (q : Int)).f0 - a) < 0) (hhigh : ∀ q : Nat, i ≤ q → q < h.length → 0 ≤ wrap64 ((rd_T130 h (q : Int)).f0 - a)) :
    ∀ (d lo hi : Nat), lo ≤ i → i ≤ hi → hi ≤ h.length → hi - lo ≤ d → Ev (fun k => impl_Place_int.l0 k h a (h.length : Int) (lo : Int) (hi : Int)) ((i : Int), true) := by
  intro d
  induction d with
  | zero =>
    intro lo hi h1 h2 h3 h4
    obtain rfl : lo = i := by omega
    obtain rfl : hi = lo := by omega
    refine ev_succ.1 ?_
    simp only [impl_Place_int.l0, Int.lt_irrefl, if_false, show ((hi : Int) < (h.length : Int)) = True from eq_true (by omega), show (0 ≤ (hi : Int)) = True from eq_true (by omega), if_true, impl_Campus_hostLit1_eq, Option.bind_some, hz]
    exact Ev.now _
  | succ d ih =>
    intro lo hi h1 h2 h3 h4
    by_cases hij : lo < hi
    · have hh : wrap64 ((IntKind.u64.wrap (wrap64 ((lo : Int) + (hi : Int)))) / 2) = (((lo + hi) / 2 : Nat) : Int) := by
        have e1 : wrap64 ((lo : Int) + (hi : Int)) = (lo : Int) + (hi : Int) := w64 (by omega) (by omega)
        have e2 : IntKind.u64.wrap ((lo : Int) + (hi : Int)) = (lo : Int) + (hi : Int) := by rw [IntKind.wrap_u64]; omega
        rw [e1, e2, w64 (by omega) (by omega)]
        omega
      have hm1 : (lo + hi) / 2 < hi := by omega
      have hm0 : lo ≤ (lo + hi) / 2 := by omega
      generalize (lo + hi) / 2 = m at hh hm1 hm0
      have hwm : wrap64 ((m : Int) + 1) = ((m + 1 : Nat) : Int) := by rw [w64 (by omega) (by omega)]; omega
      by_cases hlt : m < i
      · have h5 := hlow m hlt
        refine ev_succ.1 ?_
        simp only [impl_Place_int.l0, hh, impl_Campus_hostLit1_eq, Option.bind_some, hwm, show ((lo : Int) < (hi : Int)) = True from eq_true (by omega), show (0 ≤ (m : Int)) = True from eq_true (by omega), show ((m : Int) < (h.length : Int)) = True from eq_true (by omega), if_true, eq_true h5]
        exact ih (m + 1) hi (by omega) h2 h3 (by omega)
      · have h5 := hhigh m (by omega) (by omega)
        refine ev_succ.1 ?_
        simp only [impl_Place_int.l0, hh, impl_Campus_hostLit1_eq, Option.bind_some, show ((lo : Int) < (hi : Int)) = True from eq_true (by omega), show (0 ≤ (m : Int)) = True from eq_true (by omega), show ((m : Int) < (h.length : Int)) = True from eq_true (by omega), if_true, show (wrap64 ((rd_T130 h (m : Int)).f0 - a) < 0) = False from eq_false (by omega), if_false]
        exact ih lo m h1 (by omega) (by omega) (by omega)
    · exact ih lo hi h1 h2 h3 (by omega)
/-- What is looked for is not there. -/
theorem impl_Place_int_none (h : List S130) (a : Int) (hb : h.length ≤ 1000000) (hz : ∀ q : Nat, q < h.length → wrap64 ((rd_T130 h (q : Int)).f0 - a) ≠ 0) :
    ∀ (d lo hi : Nat), lo ≤ hi → hi ≤ h.length → hi - lo ≤ d → ∃ j, Ev (fun k => impl_Place_int.l0 k h a (h.length : Int) (lo : Int) (hi : Int)) (j, false) := by
  intro d
  induction d with
  | zero =>
    intro lo hi h1 h3 h4
    obtain rfl : hi = lo := by omega
    refine ⟨(hi : Int), ev_succ.1 ?_⟩
    by_cases hl : hi < h.length
    · have h5 : (wrap64 ((rd_T130 h (hi : Int)).f0 - a) == 0) = false := beq_eq_false_iff_ne.2 (hz hi hl)
      simp only [impl_Place_int.l0, Int.lt_irrefl, if_false, show ((hi : Int) < (h.length : Int)) = True from eq_true (by omega), show (0 ≤ (hi : Int)) = True from eq_true (by omega), if_true, impl_Campus_hostLit1_eq, Option.bind_some, h5]
      exact Ev.now _
    · simp only [impl_Place_int.l0, Int.lt_irrefl, if_false, show ((hi : Int) < (h.length : Int)) = False from eq_false (by omega)]
      exact Ev.now _
  | succ d ih =>
    intro lo hi h1 h3 h4
    by_cases hij : lo < hi
    · have hh : wrap64 ((IntKind.u64.wrap (wrap64 ((lo : Int) + (hi : Int)))) / 2) = (((lo + hi) / 2 : Nat) : Int) := by
        have e1 : wrap64 ((lo : Int) + (hi : Int)) = (lo : Int) + (hi : Int) := w64 (by omega) (by omega)
        have e2 : IntKind.u64.wrap ((lo : Int) + (hi : Int)) = (lo : Int) + (hi : Int) := by rw [IntKind.wrap_u64]; omega
        rw [e1, e2, w64 (by omega) (by omega)]
        omega
      have hm1 : (lo + hi) / 2 < hi := by omega
      have hm0 : lo ≤ (lo + hi) / 2 := by omega
      generalize (lo + hi) / 2 = m at hh hm1 hm0
      have hwm : wrap64 ((m : Int) + 1) = ((m + 1 : Nat) : Int) := by rw [w64 (by omega) (by omega)]; omega
      by_cases h5 : wrap64 ((rd_T130 h (m : Int)).f0 - a) < 0
      · obtain ⟨j, he⟩ := ih (m + 1) hi (by omega) h3 (by omega)
        refine ⟨j, ev_succ.1 ?_⟩
        simp only [impl_Place_int.l0, hh, impl_Campus_hostLit1_eq, Option.bind_some, hwm, show ((lo : Int) < (hi : Int)) = True from eq_true (by omega), show (0 ≤ (m : Int)) = True from eq_true (by omega), show ((m : Int) < (h.length : Int)) = True from eq_true (by omega), if_true, eq_true h5]
        exact he
      · obtain ⟨j, he⟩ := ih lo m (by omega) (by omega) (by omega)
        refine ⟨j, ev_succ.1 ?_⟩
        simp only [impl_Place_int.l0, hh, impl_Campus_hostLit1_eq, Option.bind_some, show ((lo : Int) < (hi : Int)) = True from eq_true (by omega), show (0 ≤ (m : Int)) = True from eq_true (by omega), show ((m : Int) < (h.length : Int)) = True from eq_true (by omega), if_true, eq_false h5, if_false]
        exact he
    · exact ih lo hi h1 h3 (by omega)
theorem impl_Place_int_ev (h : List S130) (a x : Int) (ha : (Lit.int .i64 a).wf = true) (hb : h.length ≤ 12) (hs : (h.map fun p => p.f0).Pairwise (fun a b => a < b)) (h99 : ∀ p ∈ h, 1 ≤ p.f0 ∧ p.f0 ≤ 99) : ∃ j, Ev (fun k => impl_Place_int.f k h a x) (j, decide (¬ idxP h a < 0)) ∧ (¬ idxP h a < 0 → j = idxP h a) := by
  have ha2 : -9223372036854775808 ≤ a ∧ a ≤ 9223372036854775807 := by have h_ := ha; simp [Lit.wf, IntKind.min, IntKind.max, IntKind.signed, IntKind.bits] at h_; omega
  unfold impl_Place_int.f
  rcases idxP_or h a with ⟨h1, h2⟩ | ⟨i, hi, h1, h2⟩
  · obtain ⟨j, hj⟩ := impl_Place_int_none h a (by omega) (fun q hq hz => by
      rw [rdPlace_nat hq] at hz
      have h3 := h99 _ (List.getElem_mem hq)
      refine h2 _ (List.getElem_mem hq) ?_
      unfold wrap64 at hz
      omega) h.length 0 h.length (by omega) (Nat.le_refl _) (by omega)
    refine ⟨j, ?_, fun hn => absurd (by omega) hn⟩
    rw [show decide (¬ idxP h a < 0) = false from decide_eq_false (by omega)]
    exact hj
  · have hlt : ∀ p q : Nat, p < q → (hq : q < h.length) → (rd_T130 h (p : Int)).f0 < (rd_T130 h (q : Int)).f0 := fun p q hpq hq => by
      have := List.pairwise_iff_getElem.1 hs p q (by simp; omega) (by simpa using hq) hpq
      rw [rdPlace_nat (by omega), rdPlace_nat hq]
      simpa using this
    have hia : (rd_T130 h (i : Int)).f0 = a := by rw [rdPlace_nat hi]; exact h2
    have hin : ∀ q : Nat, q < h.length → 1 ≤ (rd_T130 h (q : Int)).f0 ∧ (rd_T130 h (q : Int)).f0 ≤ 99 := fun q hq => by rw [rdPlace_nat hq]; exact h99 _ (List.getElem_mem hq)
    have hw : ∀ q : Nat, q < h.length → wrap64 ((rd_T130 h (q : Int)).f0 - a) = (rd_T130 h (q : Int)).f0 - a := fun q hq => by
      have h3 := hin q hq
      have h4 := hin i hi
      exact w64 (by omega) (by omega)
    have := impl_Place_int_found h a (by omega) i hi (by rw [hw i hi]; omega) (fun q hq => by rw [hw q (by omega)]; have := hlt q i hq hi; omega) (fun q hq hql => by
      rw [hw q hql]
      by_cases e : q = i
      · rw [e]; omega
      · have := hlt i q (by omega) hql; omega) h.length 0 h.length (by omega) (by omega) (Nat.le_refl _) (by omega)
    refine ⟨(i : Int), ?_, fun _ => h1.symm⟩
    rw [show decide (¬ idxP h a < 0) = true from decide_eq_true (by omega)]
    exact this

theorem impl_Campus_host_ev (n : Int) (l : List S86) (d : List Int) (h : List S130) (a : Int) (ha : (Lit.int .i64 a).wf = true) (hb : h.length ≤ 12) (hs : (h.map fun p => p.f0).Pairwise (fun a b => a < b)) (h99 : ∀ p ∈ h, 1 ≤ p.f0 ∧ p.f0 ≤ 99) : ∃ j, Ev (fun k => impl_Campus_host.f k n l d h a) (j, decide (¬ idxP h a < 0)) ∧ (¬ idxP h a < 0 → j = idxP h a) := by
  obtain ⟨j, h1, h2⟩ := impl_Place_int_ev h a 0 ha hb hs h99
  refine ⟨j, ?_, h2⟩
  unfold impl_Campus_host.f
  simp only [ev_bind h1, ev_some]

theorem impl_spotOf_ev (n : Int) (l : List S86) (d : List Int) (h : List S130) (a : Int) (ha : (Lit.int .i64 a).wf = true) (hl : l.length ≤ 1000000000) (hd : d.length ≤ 1000000000) (hh : plSize h ≤ 1000000000) : Ev (fun k => impl_spotOf.f k n l d h a) (if goodC n (l.map trip) d (h.map pl3) = true then spotP h a else (0, false)) := by
  unfold impl_spotOf.f
  simp only [ev_bind (impl_GoodCampus_ev n l d h hl hd hh)]
  cases hg : goodC n (l.map trip) d (h.map pl3)
  · simp only [Bool.false_eq_true, if_false]; exact Ev.now _
  · obtain ⟨m, _, _, _, _, _, _, h12, h99, hs⟩ := goodC_open hg
    obtain ⟨j, h1, h2⟩ := impl_Campus_host_ev n l d h a ha h12 hs (fun p hp => ⟨(h99 p hp).1, (h99 p hp).2.1⟩)
    simp only [if_true, ev_bind h1, spotP]
    by_cases h3 : idxP h a < 0
    · simp only [show decide (¬ idxP h a < 0) = false from decide_eq_false (fun hn => hn h3), Bool.false_eq_true, if_false, if_pos h3]; exact Ev.now _
    · rcases idxP_or h a with ⟨h4, _⟩ | ⟨i, hi, h4, _⟩
      · omega
      · rw [h2 h3]
        simp only [show decide (¬ idxP h a < 0) = true from decide_eq_true h3, if_true, if_neg h3, h4, show (0 ≤ (i : Int)) = True from eq_true (by omega), show ((i : Int) < (h.length : Int)) = True from eq_true (by omega)]
        exact Ev.now _

end Go.Proofs.Ytpohlcjkabojcaa.Pure
