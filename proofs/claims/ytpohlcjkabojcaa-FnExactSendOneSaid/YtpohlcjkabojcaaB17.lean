/- What functions of the program answer, as plain functions: used by the laws of this claim. -/
import Derived.Test.YtpohlcjkabojcaaB0
import Derived.Test.YtpohlcjkabojcaaF17
import Derived.Test.YtpohlcjkabojcaaB2
import Derived.Test.YtpohlcjkabojcaaB11
import Derived.Test.YtpohlcjkabojcaaB13
import Derived.Test.YtpohlcjkabojcaaB16
import Derived.Test.YtpohlcjkabojcaaQGraph
import Derived.Test.YtpohlcjkabojcaaQHaves
import Derived.Test.YtpohlcjkabojcaaQNear
import Derived.Test.YtpohlcjkabojcaaQShort
import Derived.Test.YtpohlcjkabojcaaQWay
namespace Go.Proofs.Ytpohlcjkabojcaa.Pure
open Go.RowKit Go.Proofs.Ytpohlcjkabojcaa.P Go.Proofs.YtpohlcjkabojcaaW.PrintWords Go.Proofs.Ytpohlcjkabojcaa.Q
set_option linter.unusedVariables false
set_option linter.unusedSimpArgs false

theorem spec_l9Edge_loop (a b : Int) (t : List S86) : ∀ p : List S86, (∀ x ∈ t, x.f0 < x.f1) → (p ++ t).length ≤ 9223372036854775806 → Ev (fun k => spec_l9Edge.l0 k a b (p ++ t) ((p ++ t).length : Int) (p.length : Int)) (costV (t.map trip) a b) := by
  induction t with
  | nil =>
    intro p _ _
    refine ev_succ.1 ?_
    simp only [spec_l9Edge.l0, c_end, Int.lt_irrefl, if_false, ev_some]
    rfl
  | cons x t ih =>
    intro p ho hb
    refine ev_succ.1 ?_
    have hn := ih (p ++ [x]) (fun y hy => ho y (by simp [hy])) (by rwa [← c_app])
    rw [← c_app] at hn
    have hx := ho x (by simp)
    simp only [spec_l9Edge.l0, c_lt, c_nn, rdE_at, c_next p x t hb, if_true, ev_ite, ev_some, List.map_cons, costV]
    by_cases h0 : x.f0 = min a b ∧ x.f1 = max a b
    · have hc : (x.f0 = a ∧ x.f1 = b) ∨ (x.f0 = b ∧ x.f1 = a) := by omega
      have hr : (if (trip x).1 = min a b ∧ (trip x).2.1 = max a b then (trip x).2.2 else costV (t.map trip) a b) = x.f2 := if_pos h0
      rw [hr]
      rcases hc with ⟨h1, h2⟩ | ⟨h1, h2⟩
      · simp [h1, h2]
      · have h3 : ¬ b = a := by omega
        simp [h1, h2, h3]
    · have h1 : ¬ (x.f0 = a ∧ x.f1 = b) := by omega
      have h2 : ¬ (x.f0 = b ∧ x.f1 = a) := by omega
      have hr : (if (trip x).1 = min a b ∧ (trip x).2.1 = max a b then (trip x).2.2 else costV (t.map trip) a b) = costV (t.map trip) a b := if_neg h0
      rw [hr]
      by_cases h3 : x.f0 = a
      · have h4 : ¬ x.f1 = b := fun h => h1 ⟨h3, h⟩
        by_cases h5 : a = b
        · have h6 : ¬ x.f1 = a := by omega
          simpa [h3, h4, h5, h6] using hn
        · simpa [h3, h4, h5] using hn
      · by_cases h5 : x.f0 = b
        · have h6 : ¬ x.f1 = a := fun h => h2 ⟨h5, h⟩
          have h7 : ¬ b = a := by omega
          simpa [h5, h6, h7] using hn
        · simpa [h3, h5] using hn
theorem spec_l9Edge_ev (l : List S86) (a b : Int) (ho : ∀ x ∈ l, x.f0 < x.f1) (h : l.length ≤ 9223372036854775806) : Ev (fun k => spec_l9Edge.f k l a b) (costV (l.map trip) a b) := spec_l9Edge_loop a b l [] ho h

theorem spec_l9Hops_loop (n : Nat) (l : List S86) (far : List Int) (v : Int) (hl : l.length ≤ 1000000) (hx : In3 n (l.map trip)) (hf : far.length = n) (hlow : ∀ v : Int, 0 ≤ v → v < (n : Int) → 0 ≤ rd far v ∧ rd far v ≤ 100000) (v0 : 0 ≤ v) (v1 : v < (n : Int)) (t : List Int) : ∀ (p o : List Int), (∀ s ∈ t, 0 ≤ s ∧ s < (n : Int)) → (p ++ t).length ≤ 1000000 → o.length ≤ p.length → Ev (fun k => spec_l9Hops.l0 k l v far o (p ++ t) ((p ++ t).length : Int) (p.length : Int)) (o ++ hopsS (l.map trip) far v t) := by
  have hlt : ∀ x ∈ l, x.f0 < x.f1 := fun x hm => by have := hx (trip x) (List.mem_map_of_mem hm); simp only [trip] at this; omega
  induction t with
  | nil =>
    intro p o _ _ _
    refine ev_succ.1 ?_
    simp only [spec_l9Hops.l0, c_end, Int.lt_irrefl, if_false, ev_some, hopsS, List.filter_nil, List.append_nil]
  | cons s t ih =>
    intro p o hs hb ho
    have hpl : p.length ≤ 1000000 := by simp at hb; omega
    have h0 := hs s (by simp)
    have hn := ih (p ++ [s]) o (fun x hx => hs x (by simp [hx])) (by rwa [← c_app]) (by simp; omega)
    have hn1 := ih (p ++ [s]) (o ++ [s]) (fun x hx => hs x (by simp [hx])) (by rwa [← c_app]) (by simp; omega)
    rw [← c_app] at hn hn1
    have hc := costV_le v s (l.map trip) (fun e he => (hx e he).2.2.2)
    have hr := hlow s h0.1 h0.2
    have w : wrap64 (rd far s + costV (l.map trip) v s) = rd far s + costV (l.map trip) v s := w64 (by omega) (by omega)
    refine ev_succ.1 ?_
    simp only [spec_l9Hops.l0, c_lt, c_nn, c_rd, if_true, hf, show (0 ≤ v) = True from eq_true v0, show (v < (n : Int)) = True from eq_true v1, show (0 ≤ s) = True from eq_true h0.1, show (s < (n : Int)) = True from eq_true h0.2, ev_ite, ev_bind (spec_l9Edge_ev l v s hlt (by omega)), w, show (o.length < 17592186044416) = True from eq_true (by omega), c_next p s t (by omega), hopsS, List.filter_cons]
    by_cases h1 : rd far v < 100000
    · by_cases h2 : rd far s + costV (l.map trip) v s = rd far v
      · simp only [h1, h2, decide_true, Bool.and_self, if_true]
        simpa [hopsS, h1] using hn1
      · simp only [h1, h2, decide_true, decide_false, Bool.and_false, Bool.false_eq_true, if_true, if_false]
        simpa [hopsS, h1] using hn
    · simp only [h1, decide_false, Bool.false_and, Bool.false_eq_true, if_false]
      simpa [hopsS, h1] using hn
theorem spec_l9Hops_ev (n : Nat) (l : List S86) (v b : Int) (hl : l.length ≤ 1000) (hn : n ≤ 1000) (hx : In3 n (l.map trip)) (hu : Once (l.map trip)) (v0 : 0 ≤ v) (v1 : v < (n : Int)) (b0 : 0 ≤ b) (b1 : b < (n : Int)) : Ev (fun k => spec_l9Hops.f k (n : Int) l v b) (hopsS (l.map trip) (farsV n (l.map trip) b) v (nearF (l.map trip) v 0 n)) := by
  have h1 := nearF_length (l.map trip) v n 0
  have hF := farsV_is hx b0 b1
  have h := spec_l9Hops_loop n l (farsV n (l.map trip) b) v (by omega) hx hF.len hF.low v0 v1 (nearF (l.map trip) v 0 n) [] [] (fun s hs => by have := (nearF_mem _ _ _ _ _).1 hs; omega) (by simp; omega) (by simp)
  unfold spec_l9Hops.f
  simp only [ev_bind (spec_l9Fars_ev n l b hx hl hn b0 b1), ev_bind (spec_l8Near_ev n l v hx hu (by omega))]
  simpa using h

theorem spec_WayTo_loop (n : Nat) (l : List S86) (a b : Int) (hl : l.length ≤ 1000) (hn : n ≤ 12) (hx : In3 n (l.map trip)) (ho : Once (l.map trip)) (a0 : 0 ≤ a) (a1 : a < (n : Int)) (b0 : 0 ≤ b) (b1 : b < (n : Int)) : ∀ (m : Nat) (o : List Int) (v : Int), 0 ≤ v → v < (n : Int) → rd (farsV n (l.map trip) b) v ≤ (m : Int) → m ≤ 1200 → o.length + m ≤ 100000 →
    Ev (fun k => spec_WayTo.l0 k (n : Int) l a b o v) (wayS n (l.map trip) (farsV n (l.map trip) b) b m o v, rd (farsV n (l.map trip) b) a, true) := by
  have hF := farsV_is hx b0 b1
  have stop : ∀ (o : List Int), Ev (fun k => spec_WayTo.l0 k (n : Int) l a b o b) (o, rd (farsV n (l.map trip) b) a, true) := fun o => by
    refine ev_succ.1 ?_
    simp only [spec_WayTo.l0, if_true, ev_bind (spec_l9Fars_ev n l b hx hl (by omega) b0 b1), hF.len, show (0 ≤ a) = True from eq_true a0, show (a < (n : Int)) = True from eq_true a1]
    exact Ev.now _
  intro m
  induction m with
  | zero =>
    intro o v v0 v1 hv _ _
    by_cases e : v = b
    · rw [e]; exact stop o
    · have hz : ((0 : Nat) : Int) = 0 := rfl
      obtain ⟨_, h2, h3⟩ := nxt_ok hx ho b0 b1 v0 v1 e (by omega)
      have := hF.low _ h2.1 h2.2
      omega
  | succ m ih =>
    intro o v v0 v1 hv hm hom
    by_cases e : v = b
    · unfold wayS; rw [if_pos e, e]; exact stop o
    · obtain ⟨h1, h2, h3⟩ := nxt_ok hx ho b0 b1 v0 v1 e (by omega)
      have h4 := ih (o ++ [nxtS n (l.map trip) (farsV n (l.map trip) b) v]) (nxtS n (l.map trip) (farsV n (l.map trip) b) v) h2.1 h2.2 (by omega) (by omega) (by simp; omega)
      unfold wayS
      rw [if_neg e]
      refine ev_succ.1 ?_
      simp only [spec_WayTo.l0, if_neg e, ev_bind (spec_l9Hops_ev n l v b hl (by omega) hx ho v0 v1 b0 b1), show (((hopsS (l.map trip) (farsV n (l.map trip) b) v (nearF (l.map trip) v 0 n)).length : Int) = 0) = False from eq_false (by omega), show (0 < ((hopsS (l.map trip) (farsV n (l.map trip) b) v (nearF (l.map trip) v 0 n)).length : Int)) = True from eq_true (by omega), if_true, if_false, show (o.length < 17592186044416) = True from eq_true (by omega)]
      exact h4
theorem spec_WayTo_ev (n : Nat) (l : List S86) (a b : Int) (hl : l.length ≤ 1000) (hn : n ≤ 12) (hg : goodE (n : Int) (l.map trip) = true) (hx : In3 n (l.map trip)) (ho : Once (l.map trip)) (a0 : 0 ≤ a) (a1 : a < (n : Int)) (b0 : 0 ≤ b) (b1 : b < (n : Int)) : Ev (fun k => spec_WayTo.f k (n : Int) l a b) (if rd (farsV n (l.map trip) b) a = 100000 then ([], 0, false) else (wayS n (l.map trip) (farsV n (l.map trip) b) b 1200 [a] a, rd (farsV n (l.map trip) b) a, true)) := by
  unfold spec_WayTo.f
  simp only [ev_bind (spec_l9Two_ev n l a b (by omega) (by omega) hg a0 a1 b0 b1), if_true]
  by_cases h : rd (farsV n (l.map trip) b) a = 100000
  · rw [if_pos h]
    have e : ¬ a = b := fun e => by
      have := (farsV_is hx b0 b1).zero
      rw [e] at h
      omega
    have hz : hopsS (l.map trip) (farsV n (l.map trip) b) a (nearF (l.map trip) a 0 n) = [] := by
      unfold hopsS
      rw [List.filter_eq_nil_iff]
      intro s _ hs
      rw [h] at hs
      simp at hs
    refine ev_succ.1 ?_
    simp only [spec_WayTo.l0, if_neg e, ev_bind (spec_l9Hops_ev n l a b hl (by omega) hx ho a0 a1 b0 b1), hz, List.length_nil, show (((0 : Nat) : Int) = 0) = True from eq_true rfl, if_true]
    exact Ev.now _
  · rw [if_neg h]
    have := farsV_small hn hx b0 b1 a0 a1
    exact spec_WayTo_loop n l a b hl hn hx ho a0 a1 b0 b1 1200 [a] a a0 a1 (by omega) (by omega) (by simp)

theorem spec_SendOne_loop (way : List Int) (hw : way.length ≤ 100000) (is : Bool) : ∀ (d i : Nat) (o : List S95), 1 ≤ i → (i + d = way.length ∨ (way.length ≤ i ∧ d = 0)) → o.length ≤ i → i ≤ 100000 → Ev (fun k => spec_SendOne.l0 k way is o (i : Int)) (o ++ sendI way i d, is, true) := by
  intro d
  induction d with
  | zero =>
    intro i o h1 hi _ _
    refine ev_succ.1 ?_
    simp only [spec_SendOne.l0, show ((i : Int) < (way.length : Int)) = False from eq_false (by omega), if_false, sendI, List.append_nil]
    exact Ev.now _
  | succ d ih =>
    intro i o h1 hi ho hib
    have h := ih (i + 1) (o ++ [⟨rd way ((i : Int) - 1), rd way (i : Int)⟩]) (by omega) (by omega) (by simp; omega) (by omega)
    refine ev_succ.1 ?_
    simp only [spec_SendOne.l0, show ((i : Int) < (way.length : Int)) = True from eq_true (by omega), if_true, w64 (n := (i : Int) - 1) (by omega) (by omega), w64 (n := (i : Int) + 1) (by omega) (by omega), show (0 ≤ (i : Int) - 1) = True from eq_true (by omega), show ((i : Int) - 1 < (way.length : Int)) = True from eq_true (by omega), show (0 ≤ (i : Int)) = True from eq_true (by omega), show (o.length < 8796093022208) = True from eq_true (by omega)]
    simpa [sendI] using h
theorem spec_SendOne_ev (n : Int) (l : List S86) (d : List Int) (h : List S130) (a b : Int) (hl : l.length ≤ 1000000000) (hd : d.length ≤ 1000000000) (hh : plSize h ≤ 1000000000) : Ev (fun k => spec_SendOne.f k n l d h a b) (sendAny n l d h a b) := by
  unfold spec_SendOne.f sendAny
  simp only [ev_bind (spec_l17Spots_ev n l d h a b hl hd hh)]
  cases hg : goodC n (l.map trip) d (h.map pl3)
  · simp only [Bool.false_eq_true, if_false]; exact Ev.now _
  · simp only [if_true]
    cases h1 : (spotP h a).2
    · simp only [Bool.false_eq_true, if_false]; exact Ev.now _
    · simp only [if_true]
      cases h2 : (spotP h b).2
      · simp only [Bool.false_eq_true, if_false]; exact Ev.now _
      · have hgl : goodE n ((dropFrom d 0 l).map trip) = true := by
          simp only [goodC, Bool.and_eq_true] at hg
          exact goodE_sub hg.2.1 ((dropFrom_sublist d l 0).map trip)
        obtain ⟨m, rfl, m1, m2, i3, on, l40, _, hp, _⟩ := goodC_open hg
        obtain ⟨p, pm, pe⟩ := spotP_mem h1
        obtain ⟨q, qm, qe⟩ := spotP_mem h2
        have p1 := hp p pm
        have q1 := hp q qm
        rw [← pe] at p1
        rw [← qe] at q1
        have hw := spec_WayTo_ev m (dropFrom d 0 l) (spotP h a).1 (spotP h b).1 (by omega) m2 hgl i3 on p1.2.2.1 p1.2.2.2 q1.2.2.1 q1.2.2.2
        simp only [if_true, ev_bind (spec_l17Up_ev (m : Int) l d h hl hd), ev_bind hw, Int.toNat_natCast, sendV]
        split
        · exact spec_SendOne_loop [] (by simp) false 0 1 [] (by omega) (.inr ⟨by simp, rfl⟩) (by simp) (by omega)
        · have hlen := wayS_length m ((dropFrom d 0 l).map trip) (farsV m ((dropFrom d 0 l).map trip) (spotP h b).1) (spotP h b).1 1200 [(spotP h a).1] (spotP h a).1
          simp only [List.length_cons, List.length_nil] at hlen
          exact spec_SendOne_loop (wayS m ((dropFrom d 0 l).map trip) (farsV m ((dropFrom d 0 l).map trip) (spotP h b).1) (spotP h b).1 1200 [(spotP h a).1] (spotP h a).1) (by omega) true ((wayS m ((dropFrom d 0 l).map trip) (farsV m ((dropFrom d 0 l).map trip) (spotP h b).1) (spotP h b).1 1200 [(spotP h a).1] (spotP h a).1).length - 1) 1 [] (by omega) (.inl (by omega)) (by simp) (by omega)


theorem laws_eqHopS_loop (t : List S95) : ∀ p : List S95, (p ++ t).length ≤ 9223372036854775806 → Ev (fun k => laws_eqHopS.l0 k (p ++ t) (p ++ t) (p.length : Int)) true := by
  induction t with
  | nil =>
    intro p _
    refine ev_succ.1 ?_
    simp only [laws_eqHopS.l0, c_end, Int.lt_irrefl, if_false, ev_some]
  | cons x t ih =>
    intro p hb
    refine ev_succ.1 ?_
    simp only [laws_eqHopS.l0, laws_eqHop.f, Option.bind_some, c_lt, c_nn, c_next _ _ _ hb, if_true]
    rw [c_app p x t]
    exact ih (p ++ [x]) (by rwa [← c_app])
theorem laws_eqHopS_ev (l : List S95) (h : l.length ≤ 9223372036854775806) : Ev (fun k => laws_eqHopS.f k l l) true := by
  unfold laws_eqHopS.f
  simp only [if_true]
  exact laws_eqHopS_loop l [] h

theorem laws_markHopS_loop (t : List S95) : ∀ (q : List S95) (a : Int), (q ++ t).length ≤ 9223372036854775806 → 0 ≤ a → a + 2 * t.length ≤ 9223372036854775807 → Ev (fun k => laws_markHopS.l0 k (q ++ t) a (q.length : Int)) (a + 2 * t.length, q ++ marksHop t.length a) := by
  induction t with
  | nil =>
    intro q a _ _ _
    refine ev_succ.1 ?_
    simp only [laws_markHopS.l0, c_end, Int.lt_irrefl, if_false, ev_some]
    simp [marksHop]
  | cons x t ih =>
    intro q a hb h0 h1
    refine ev_succ.1 ?_
    simp only [List.length_cons] at h1
    simp only [laws_markHopS.l0, c_lt, c_nn, rdHop_at, c_set, ← c_app, Option.bind_some, c_next _ _ _ hb, if_true]
    rw [w64 (n := a + 1) (by omega) (by omega), w64 (n := a + 1 + 1) (by omega) (by omega), show ((q ++ [x]).length : Int) = ((q ++ [(⟨a, a + 1⟩ : S95)]).length : Int) by simp]
    have := ih (q ++ [⟨a, a + 1⟩]) (a + 2) (by simpa using hb) (by omega) (by omega)
    rw [show a + 2 * ((x :: t).length : Int) = a + 2 + 2 * (t.length : Int) by simp; omega, show q ++ marksHop (x :: t).length a = (q ++ [⟨a, a + 1⟩]) ++ marksHop t.length (a + 2) by simp [marksHop]]
    rw [show a + 1 + 1 = a + 2 by omega]
    rw [← c_app] at this
    exact this
theorem laws_markHopS_ev (l : List S95) (a : Int) (h : l.length ≤ 9223372036854775806) (h0 : 0 ≤ a) (h1 : a + 2 * l.length ≤ 9223372036854775807) : Ev (fun k => laws_markHopS.f k l a) (a + 2 * l.length, marksHop l.length a) := laws_markHopS_loop l [] a h h0 h1

theorem laws_heldHopS_loop (n : Nat) : ∀ (p : List S95) (a : Int), p.length + n ≤ 9223372036854775806 → 0 ≤ a → a + 2 * n ≤ 9223372036854775807 → Ev (fun k => laws_heldHopS.l0 k (p ++ marksHop n a) a (p.length : Int)) (a + 2 * n) := by
  induction n with
  | zero =>
    intro p a _ _ _
    refine ev_succ.1 ?_
    simp only [laws_heldHopS.l0, marksHop, c_end, Int.lt_irrefl, if_false, ev_some]
    simp
  | succ n ih =>
    intro p a hb h0 h1
    refine ev_succ.1 ?_
    simp only [laws_heldHopS.l0, marksHop, c_lt, c_nn, rdHop_at, if_true]
    rw [w64 (n := a + 1) (by omega) (by omega), w64 (n := a + 1 + 1) (by omega) (by omega), c_next p (⟨a, a + 1⟩ : S95) (marksHop n (a + 2)) (by simp [marksHop_length]; omega), c_app p (⟨a, a + 1⟩ : S95) (marksHop n (a + 2)), show a + 1 + 1 = a + 2 by omega]
    have := ih (p ++ [⟨a, a + 1⟩]) (a + 2) (by simp; omega) (by omega) (by omega)
    rw [show a + 2 * ((n + 1 : Nat) : Int) = a + 2 + 2 * (n : Int) by omega]
    simpa using this
theorem laws_heldHopS_ev (n : Nat) (a : Int) (h : n ≤ 9223372036854775806) (h0 : 0 ≤ a) (h1 : a + 2 * n ≤ 9223372036854775807) : Ev (fun k => laws_heldHopS.f k (marksHop n a) a) (a + 2 * n) := by
  unfold laws_heldHopS.f
  exact laws_heldHopS_loop n [] a (by simpa using h) h0 h1

end Go.Proofs.Ytpohlcjkabojcaa.Pure
