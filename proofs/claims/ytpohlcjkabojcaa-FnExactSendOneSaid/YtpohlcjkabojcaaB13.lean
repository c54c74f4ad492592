/- What functions of the program answer, as plain functions: used by the laws of this claim. -/
import Derived.Test.YtpohlcjkabojcaaB0
import Derived.Test.YtpohlcjkabojcaaF13
import Derived.Test.YtpohlcjkabojcaaB2
import Derived.Test.YtpohlcjkabojcaaB6
import Derived.Test.YtpohlcjkabojcaaB11
import Derived.Test.YtpohlcjkabojcaaB12
import Derived.Test.YtpohlcjkabojcaaQGraph
import Derived.Test.YtpohlcjkabojcaaQHaves
import Derived.Test.YtpohlcjkabojcaaQShort
import Derived.Test.YtpohlcjkabojcaaQWay
namespace Go.Proofs.Ytpohlcjkabojcaa.Pure
open Go.RowKit Go.Proofs.Ytpohlcjkabojcaa.P Go.Proofs.YtpohlcjkabojcaaW.PrintWords Go.Proofs.Ytpohlcjkabojcaa.Q
set_option linter.unusedVariables false
set_option linter.unusedSimpArgs false

theorem costV_le (a b : Int) : ∀ l : List (Int × Int × Int), (∀ e ∈ l, 1 ≤ e.2.2 ∧ e.2.2 ≤ 100) → 0 ≤ costV l a b ∧ costV l a b ≤ 100
  | [], _ => by simp [costV]
  | e :: t, h => by
    have h1 := costV_le a b t (fun x hx => h x (by simp [hx]))
    have h2 := h e (by simp)
    unfold costV
    split <;> omega
theorem impl_hops_loop (n : Nat) (l : List S86) (far : List Int) (v : Int) (hl : l.length ≤ 1000000) (hx : In3 n (l.map trip)) (hf : far.length = n) (hlow : ∀ v : Int, 0 ≤ v → v < (n : Int) → 0 ≤ rd far v ∧ rd far v ≤ 100000) (v0 : 0 ≤ v) (v1 : v < (n : Int)) (t : List Int) : ∀ (p o : List Int), (∀ s ∈ t, 0 ≤ s ∧ s < (n : Int)) → (p ++ t).length ≤ 1000000 → o.length ≤ p.length → Ev (fun k => impl_hops.l0 k l v far o (p ++ t) ((p ++ t).length : Int) (p.length : Int)) (o ++ hopsS (l.map trip) far v t) := by
  induction t with
  | nil =>
    intro p o _ _ _
    refine ev_succ.1 ?_
    simp only [impl_hops.l0, c_end, Int.lt_irrefl, if_false, ev_some, hopsS, List.filter_nil, List.append_nil]
  | cons s t ih =>
    intro p o hs hb ho
    have hpl : p.length ≤ 1000000 := by simp at hb; omega
    have h0 := hs s (by simp)
    have hn := ih (p ++ [s]) o (fun x hx => hs x (by simp [hx])) (by rwa [← c_app]) (by simp; omega)
    have hn1 := ih (p ++ [s]) (o ++ [s]) (fun x hx => hs x (by simp [hx])) (by rwa [← c_app]) (by simp; omega)
    rw [← c_app] at hn hn1
    have hc := costV_le v s (l.map trip) (fun e he => (hx e he).2.2.2)
    have hr := hlow s h0.1 h0.2
    have w : wrap64 (rd far s + costV (l.map trip) v s) = rd far s + costV (l.map trip) v s := w64 (by omega) (by omega)
    refine ev_succ.1 ?_
    simp only [impl_hops.l0, c_lt, c_nn, c_rd, if_true, hf, show (0 ≤ v) = True from eq_true v0, show (v < (n : Int)) = True from eq_true v1, show (0 ≤ s) = True from eq_true h0.1, show (s < (n : Int)) = True from eq_true h0.2, ev_ite, ev_bind (impl_cost_ev l v s (by omega)), w, show (o.length < 17592186044416) = True from eq_true (by omega), c_next p s t (by omega), hopsS, List.filter_cons]
    by_cases h1 : rd far v < 100000
    · by_cases h2 : rd far s + costV (l.map trip) v s = rd far v
      · simp only [h1, h2, decide_true, Bool.and_self, if_true]
        simpa [hopsS, h1] using hn1
      · simp only [h1, h2, decide_true, decide_false, Bool.and_false, Bool.false_eq_true, if_true, if_false]
        simpa [hopsS, h1] using hn
    · simp only [h1, decide_false, Bool.false_and, Bool.false_eq_true, if_false]
      simpa [hopsS, h1] using hn
theorem impl_hops_ev (n : Nat) (l : List S86) (far : List Int) (v : Int) (hl : l.length ≤ 1000000) (hn : n ≤ 1000) (hx : In3 n (l.map trip)) (hf : far.length = n) (hlow : ∀ v : Int, 0 ≤ v → v < (n : Int) → 0 ≤ rd far v ∧ rd far v ≤ 100000) (v0 : 0 ≤ v) (v1 : v < (n : Int)) : Ev (fun k => impl_hops.f k (n : Int) l v far) (hopsS (l.map trip) far v (nearF (l.map trip) v 0 n)) := by
  have h1 := nearF_length (l.map trip) v n 0
  have h := impl_hops_loop n l far v hl hx hf hlow v0 v1 (nearF (l.map trip) v 0 n) [] [] (fun s hs => by have := (nearF_mem _ _ _ _ _).1 hs; omega) (by simp; omega) (by simp)
  unfold impl_hops.f
  simp only [ev_bind (impl_near_ev n l v hl hn)]
  simpa using h

theorem impl_wayTo_loop (n : Nat) (l : List S86) (a b : Int) (hl : l.length ≤ 1000) (hn : n ≤ 12) (hx : In3 n (l.map trip)) (ho : Once (l.map trip)) (a0 : 0 ≤ a) (a1 : a < (n : Int)) (b0 : 0 ≤ b) (b1 : b < (n : Int)) : ∀ (m : Nat) (o : List Int) (v : Int), 0 ≤ v → v < (n : Int) → rd (farsV n (l.map trip) b) v ≤ (m : Int) → m ≤ 1200 → o.length + m ≤ 100000 →
    Ev (fun k => impl_wayTo.l0 k (n : Int) l a b (farsV n (l.map trip) b) o v) (wayS n (l.map trip) (farsV n (l.map trip) b) b m o v, rd (farsV n (l.map trip) b) a, true) := by
  have hF := farsV_is hx b0 b1
  have stop : ∀ (o : List Int), Ev (fun k => impl_wayTo.l0 k (n : Int) l a b (farsV n (l.map trip) b) o b) (o, rd (farsV n (l.map trip) b) a, true) := fun o => by
    refine ev_succ.1 ?_
    simp only [impl_wayTo.l0, if_true, hF.len, show (0 ≤ a) = True from eq_true a0, show (a < (n : Int)) = True from eq_true a1]
    exact Ev.now _
  intro m
  induction m with
  | zero =>
    intro o v v0 v1 hv _ _
    by_cases e : v = b
    · rw [e]; exact stop o
    · have hz : ((0 : Nat) : Int) = 0 := rfl
      obtain ⟨_, h2, h3⟩ := nxt_ok hx ho b0 b1 v0 v1 e (by omega)
      have := hF.low _ h2.1 h2.2
      omega
  | succ m ih =>
    intro o v v0 v1 hv hm hom
    by_cases e : v = b
    · unfold wayS; rw [if_pos e, e]; exact stop o
    · obtain ⟨h1, h2, h3⟩ := nxt_ok hx ho b0 b1 v0 v1 e (by omega)
      have h4 := ih (o ++ [nxtS n (l.map trip) (farsV n (l.map trip) b) v]) (nxtS n (l.map trip) (farsV n (l.map trip) b) v) h2.1 h2.2 (by omega) (by omega) (by simp; omega)
      unfold wayS
      rw [if_neg e]
      refine ev_succ.1 ?_
      simp only [impl_wayTo.l0, if_neg e, ev_bind (impl_hops_ev n l (farsV n (l.map trip) b) v (by omega) (by omega) hx hF.len hF.low v0 v1), show (0 < ((hopsS (l.map trip) (farsV n (l.map trip) b) v (nearF (l.map trip) v 0 n)).length : Int)) = True from eq_true (by omega), if_true, show (o.length < 17592186044416) = True from eq_true (by omega)]
      exact h4
theorem impl_wayTo_ev (n : Nat) (l : List S86) (a b : Int) (hl : l.length ≤ 1000) (hn : n ≤ 12) (hx : In3 n (l.map trip)) (ho : Once (l.map trip)) (a0 : 0 ≤ a) (a1 : a < (n : Int)) (b0 : 0 ≤ b) (b1 : b < (n : Int)) : Ev (fun k => impl_wayTo.f k (n : Int) l a b) (if rd (farsV n (l.map trip) b) a = 100000 then ([], 0, false) else (wayS n (l.map trip) (farsV n (l.map trip) b) b 1200 [a] a, rd (farsV n (l.map trip) b) a, true)) := by
  unfold impl_wayTo.f
  simp only [ev_bind (impl_fars_ev n l b hx hl (by omega) b0 b1), (farsV_is hx b0 b1).len, show (0 ≤ a) = True from eq_true a0, show (a < (n : Int)) = True from eq_true a1, if_true]
  by_cases h : rd (farsV n (l.map trip) b) a = 100000
  · simp only [h, if_true]; exact Ev.now _
  · rw [if_neg h]
    simp only [h, if_false]
    have := farsV_small hn hx b0 b1 a0 a1
    exact impl_wayTo_loop n l a b hl hn hx ho a0 a1 b0 b1 1200 [a] a a0 a1 (by omega) (by omega) (by simp)

/-- The hops of a way, from its i-th spot on. -/
def sendI (way : List Int) : Nat → Nat → List S95
  | _, 0 => []
  | i, d + 1 => ⟨rd way ((i : Int) - 1), rd way (i : Int)⟩ :: sendI way (i + 1) d
theorem sendI_length (way : List Int) : ∀ (d i : Nat), (sendI way i d).length = d
  | 0, _ => rfl
  | d + 1, i => by simp [sendI, sendI_length way d (i + 1)]
theorem impl_SendOne_loop (way : List Int) (hw : way.length ≤ 100000) (is : Bool) : ∀ (d i : Nat) (o : List S95), 1 ≤ i → (i + d = way.length ∨ (way.length ≤ i ∧ d = 0)) → o.length ≤ i → i ≤ 100000 → Ev (fun k => impl_SendOne.l0 k way is o (i : Int)) (o ++ sendI way i d, is, true) := by
  intro d
  induction d with
  | zero =>
    intro i o h1 hi _ _
    refine ev_succ.1 ?_
    simp only [impl_SendOne.l0, show ((i : Int) < (way.length : Int)) = False from eq_false (by omega), if_false, sendI, List.append_nil]
    exact Ev.now _
  | succ d ih =>
    intro i o h1 hi ho hib
    have h := ih (i + 1) (o ++ [⟨rd way ((i : Int) - 1), rd way (i : Int)⟩]) (by omega) (by omega) (by simp; omega) (by omega)
    refine ev_succ.1 ?_
    simp only [impl_SendOne.l0, show ((i : Int) < (way.length : Int)) = True from eq_true (by omega), if_true, w64 (n := (i : Int) - 1) (by omega) (by omega), w64 (n := (i : Int) + 1) (by omega) (by omega), show (0 ≤ (i : Int) - 1) = True from eq_true (by omega), show ((i : Int) - 1 < (way.length : Int)) = True from eq_true (by omega), show (0 ≤ (i : Int)) = True from eq_true (by omega), show (o.length < 8796093022208) = True from eq_true (by omega)]
    simpa [sendI] using h
/-- What SendOne answers: a, b spots of hosts, l the edges that are up. -/
def sendV (n : Nat) (l : List (Int × Int × Int)) (a b : Int) : List S95 × Bool × Bool :=
  if rd (farsV n l b) a = 100000 then ([], false, true) else (sendI (wayS n l (farsV n l b) b 1200 [a] a) 1 ((wayS n l (farsV n l b) b 1200 [a] a).length - 1), true, true)
theorem sendV_length (n : Nat) (l : List (Int × Int × Int)) (a b : Int) : (sendV n l a b).1.length ≤ 1200 := by
  unfold sendV
  split
  · simp
  · have := wayS_length n l (farsV n l b) b 1200 [a] a
    simp only [sendI_length]
    simp only [List.length_cons, List.length_nil] at this
    omega
def sendAny (n : Int) (l : List S86) (d : List Int) (h : List S130) (a b : Int) : List S95 × Bool × Bool :=
  if goodC n (l.map trip) d (h.map pl3) = true then (if (spotP h a).2 = true then (if (spotP h b).2 = true then sendV n.toNat ((dropFrom d 0 l).map trip) (spotP h a).1 (spotP h b).1 else ([], false, false)) else ([], false, false)) else ([], false, false)
theorem impl_SendOne_ev (n : Int) (l : List S86) (d : List Int) (h : List S130) (a b : Int) (ha : (Lit.int .i64 a).wf = true) (hb : (Lit.int .i64 b).wf = true) (hl : l.length ≤ 1000000000) (hd : d.length ≤ 1000000000) (hh : plSize h ≤ 1000000000) : Ev (fun k => impl_SendOne.f k n l d h a b) (sendAny n l d h a b) := by
  have no : ∀ x y : Int, Ev (fun k => impl_SendOne.j0 k x y true n l d h) (([] : List S95), false, false) := fun x y => by
    refine ev_succ.1 ?_
    simp only [impl_SendOne.j0, if_true]
    exact Ev.now _
  unfold impl_SendOne.f sendAny
  simp only [ev_bind (impl_spotOf_ev n l d h a ha hl hd hh), ev_bind (impl_spotOf_ev n l d h b hb hl hd hh)]
  cases hg : goodC n (l.map trip) d (h.map pl3)
  · simp only [Bool.false_eq_true, if_false]; exact no _ _
  · simp only [if_true]
    cases h1 : (spotP h a).2
    · simp only [Bool.false_eq_true, if_false]; exact no _ _
    · simp only [if_true]
      cases h2 : (spotP h b).2
      · simp only [Bool.false_eq_true, if_false, Bool.not_false]; exact no _ _
      · obtain ⟨m, rfl, m1, m2, i3, on, l40, _, hp, _⟩ := goodC_open hg
        obtain ⟨p, pm, pe⟩ := spotP_mem h1
        obtain ⟨q, qm, qe⟩ := spotP_mem h2
        have p1 := hp p pm
        have q1 := hp q qm
        rw [← pe] at p1
        rw [← qe] at q1
        have hw := impl_wayTo_ev m (dropFrom d 0 l) (spotP h a).1 (spotP h b).1 (by omega) m2 i3 on p1.2.2.1 p1.2.2.2 q1.2.2.1 q1.2.2.2
        refine ev_succ.1 ?_
        simp only [if_true, Bool.not_true, Bool.false_eq_true, if_false, impl_SendOne.j0, ev_bind (impl_Campus_up_ev (m : Int) l d h hl hd), ev_bind hw, Int.toNat_natCast, sendV]
        split
        · exact impl_SendOne_loop [] (by simp) false 0 1 [] (by omega) (.inr ⟨by simp, rfl⟩) (by simp) (by omega)
        · have hlen := wayS_length m ((dropFrom d 0 l).map trip) (farsV m ((dropFrom d 0 l).map trip) (spotP h b).1) (spotP h b).1 1200 [(spotP h a).1] (spotP h a).1
          simp only [List.length_cons, List.length_nil] at hlen
          exact impl_SendOne_loop (wayS m ((dropFrom d 0 l).map trip) (farsV m ((dropFrom d 0 l).map trip) (spotP h b).1) (spotP h b).1 1200 [(spotP h a).1] (spotP h a).1) (by omega) true ((wayS m ((dropFrom d 0 l).map trip) (farsV m ((dropFrom d 0 l).map trip) (spotP h b).1) (spotP h b).1 1200 [(spotP h a).1] (spotP h a).1).length - 1) 1 [] (by omega) (.inl (by omega)) (by simp) (by omega)

end Go.Proofs.Ytpohlcjkabojcaa.Pure
