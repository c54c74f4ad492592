/- What functions of the program answer, as plain functions: used by the laws of this claim. -/
import Derived.Test.YthambdfgkfkcmaaB0
import Derived.Test.YthambdfgkfkcmaaF8
import Derived.Test.YthambdfgkfkcmaaB3
import Derived.Test.YthambdfgkfkcmaaB7
import Derived.Test.YthambdfgkfkcmaaQFlow
import Derived.Test.YthambdfgkfkcmaaQGraph
import Derived.Test.YthambdfgkfkcmaaQShort
import Derived.Test.YthambdfgkfkcmaaQWay
import Derived.Test.YthambdfgkfkcmaaQWays
namespace Go.Proofs.Ythambdfgkfkcmaa.Pure
open Go.RowKit Go.Proofs.Ythambdfgkfkcmaa.P Go.Proofs.YthambdfgkfkcmaaW.PrintWords Go.Proofs.Ythambdfgkfkcmaa.Q
set_option linter.unusedVariables false
set_option linter.unusedSimpArgs false

theorem spec_bound {ab : List (Int × Int)} {u : List Int} {B : Int} (hl : u.length = ab.length) (hb : ∀ i : Int, 0 ≤ i → i < (u.length : Int) → -B ≤ rd u i ∧ rd u i ≤ B) {j : Nat} (hj : j < ab.length) {d : Int} (hd : d = 1 ∨ d = -1) : ∀ i : Int, 0 ≤ i → i < ((u.set j (rd u (j : Int) + d)).length : Int) → -(B + 1) ≤ rd (u.set j (rd u (j : Int) + d)) i ∧ rd (u.set j (rd u (j : Int) + d)) i ≤ B + 1 := by
  intro i i0 i1
  rw [List.length_set] at i1
  have := rd_set (g := u) (i := (j : Int)) (x := rd u (j : Int) + d) (j := i) (by omega) (by omega) i0
  rw [Int.toNat_natCast] at this
  rw [this]
  have h1 := hb (j : Int) (by omega) (by omega)
  have h2 := hb i i0 i1
  split <;> omega
theorem spec_l15Flow_way (n : Nat) (l : List S47) (a b : Int) (hl : l.length ≤ 1000000) (a0 : 0 ≤ a) (by_ u0 : List Int) (rank : Int → Nat) (hi : Inv (openB (ends l) u0) n a by_ rank) (a1 : a < (n : Int)) (R : List Int) : ∀ (f : Nat) (v : Int) (u : List Int) (B : Int), rank v < f → 0 ≤ v → v < (n : Int) → 0 ≤ rd by_ v → u.length = (ends l).length → (∀ i : Int, 0 ≤ i → i < (u.length : Int) → -B ≤ rd u i ∧ rd u i ≤ B) → 0 ≤ B → B + f ≤ 100000 →
    Ev (fun k => spec_l15Flow.l0 k (n : Int) l a b (aug (ends l) by_ a f v u)) R → Ev (fun k => spec_l15Flow.l1 k (n : Int) l a b u (by_.set a.toNat (-2)) v) R := by
  intro f
  induction f with
  | zero => intro v u B h; exact absurd h (by omega)
  | succ f ih =>
    intro v u B hf v0 v1 hv hul hB B0 hBf h
    have hby := hi.len
    have hel := ends_length l
    unfold aug at h
    by_cases hva : v = a
    · rw [if_pos hva] at h
      refine ev_succ.1 ?_
      simp only [spec_l15Flow.l1, if_pos hva]
      exact h
    · rw [if_neg hva] at h
      obtain ⟨t1, t2, t3⟩ := hi.tree v v0 v1 hva hv
      have hr := (hi.rng v v0 v1).resolve_left (by omega)
      have hset : rd (by_.set a.toNat (-2)) v = rd by_ v := by rw [rd_set a0 (by omega) v0, if_neg hva]
      generalize hpe : rd by_ v = p at t1 t2 t3 hr h hset
      have hpv : p ≠ v := fun e => by rw [e] at t2; omega
      unfold openB at t3
      rw [Bool.and_eq_true, decide_eq_true_eq] at t3
      have key : ∀ (j : Nat) (hj : j < (ends l).length) (d : Int), (((ends l)[j]).1 = p ∧ d = 1 ∨ ((ends l)[j]).1 = v ∧ d = -1) → edgeFrom p v 0 (ends l) = ((j : Int), d) → Ev (fun k => spec_l15Flow.l1 k (n : Int) l a b u (by_.set a.toNat (-2)) v) R := by
        intro j hj d hd he
        have hbj := hB (j : Int) (by omega) (by omega)
        have hd2 : d = 1 ∨ d = -1 := hd.imp (fun h => h.2) (fun h => h.2)
        have hu' : upd (ends l) u p v = u.set j (rd u (j : Int) + d) := by unfold upd; rw [he]; simp
        rw [hu'] at h
        have hnum : numFrom p v 0 (ends l) = (j : Int) := by rw [← edgeFrom_num, he]
        have hnx := ih p (u.set j (rd u (j : Int) + d)) (B + 1) (by omega) hr.1 hr.2 t1 (by simpa using hul) (spec_bound hul hB hj hd2) (by omega) (by omega) h
        refine ev_succ.1 ?_
        simp only [spec_l15Flow.l1, if_neg hva, List.length_set, show (0 ≤ v) = True from eq_true v0, show (v < (by_.length : Int)) = True from eq_true (by omega), if_true, hset, ev_bind (spec_l15Number_ev l p v (by omega)), hnum, show (0 ≤ (j : Int)) = True from eq_true (by omega), show ((j : Int) < (l.length : Int)) = True from eq_true (by omega), show ((j : Int) < (u.length : Int)) = True from eq_true (by omega), rdE_ends l hj, Int.toNat_natCast, ev_ite]
        rcases hd with ⟨e1, e2⟩ | ⟨e1, e2⟩
        · subst e2
          rw [if_pos e1, w64 (n := rd u (j : Int) + 1) (by omega) (by omega)]
          exact hnx
        · subst e2
          rw [if_neg (by rw [e1]; exact fun e => hpv e.symm), w64 (n := rd u (j : Int) - 1) (by omega) (by omega)]
          exact hnx
      rcases edgeFrom_cases hpv (ends l) 0 with e | ⟨j, hj, e⟩
      · rw [e] at t3; simp at t3
      · rcases e with ⟨e, e3⟩ | ⟨e, e3⟩ <;> rw [Nat.zero_add] at e
        · exact key j hj 1 (Or.inl ⟨by rw [e3], rfl⟩) e
        · exact key j hj (-1) (Or.inr ⟨by rw [e3], rfl⟩) e
theorem spec_l15Flow_loop (n : Nat) (l : List S47) (a b : Int) (hl : l.length ≤ 1000000) (hn : n ≤ 1000) (hx3 : In3 n (l.map trip)) (ho : Once (l.map trip)) (a0 : 0 ≤ a) (a1 : a < (n : Int)) (b0 : 0 ≤ b) (b1 : b < (n : Int)) (hab : b ≠ a) : ∀ (f : Nat) (u : List Int), Unit1 (ends l) u → ((ends l).length : Int) - outOf a (ends l) u < f → Ev (fun k => spec_l15Flow.l0 k (n : Int) l a b u) (fill (ends l) n a b f u) := by
  intro f
  induction f with
  | zero =>
    intro u hu h
    have := outOf_le a (ends l) u (unit_all hu)
    omega
  | succ f ih =>
    intro u hu h
    obtain ⟨rk, hrk⟩ := searchV_inv (ends l) u a0 a1
    have hlen := hrk.len
    have hset : rd ((searchV (ends l) n u a).set a.toNat (-2)) b = rd (searchV (ends l) n u a) b := by rw [rd_set a0 (by omega) b0, if_neg hab]
    have hrng := hrk.rng b b0 b1
    refine ev_succ.1 ?_
    simp only [spec_l15Flow.l0, ev_bind (spec_l15Reach_ev n l u hl hn hx3 ho hu a a0 a1), List.length_set, show (0 ≤ b) = True from eq_true b0, show (b < ((searchV (ends l) n u a).length : Int)) = True from eq_true (by omega), if_true, hset, fill]
    by_cases hb : rd (searchV (ends l) n u a) b < 0
    · rw [if_pos hb]
      simp only [show (rd (searchV (ends l) n u a) b = -1) = True from eq_true (by omega), if_true, ev_some]
    · rw [if_neg hb]
      simp only [show (rd (searchV (ends l) n u a) b = -1) = False from eq_false (by omega), if_false]
      obtain ⟨⟨rank, hi, hr⟩, h1, h2⟩ := aug_fill a0 a1 b0 b1 hab hu (by omega)
      refine spec_l15Flow_way n l a b hl a0 (searchV (ends l) n u a) u rank hi a1 _ n b u 1 hr b0 b1 (by omega) hu.1 (fun i i0 i1 => hu.2 i i0 (by have := hu.1; omega)) (by omega) (by omega) ?_
      exact ih _ h1 (by omega)
theorem spec_l15Flow_ev (n : Nat) (l : List S47) (a b : Int) (hl : l.length ≤ 1000000) (hn : n ≤ 1000) (hx3 : In3 n (l.map trip)) (ho : Once (l.map trip)) (a0 : 0 ≤ a) (a1 : a < (n : Int)) (b0 : 0 ≤ b) (b1 : b < (n : Int)) (hab : b ≠ a) : Ev (fun k => spec_l15Flow.f k (n : Int) l a b) (flowV (ends l) n a b) := by
  have h := spec_l15Flow_loop n l a b hl hn hx3 ho a0 a1 b0 b1 hab ((ends l).length + 1) _ (unit_zero (ends l)) (by rw [outOf_zero]; omega)
  have hel := ends_length l
  unfold spec_l15Flow.f flowV
  rw [hel] at h ⊢
  simp only [show (0 ≤ (l.length : Int)) = True from eq_true (by omega), Int.toNat_natCast, show (l.length ≤ 35184372088832) = True from eq_true (by omega), if_true]
  exact h

theorem rdE_both (l : List S47) {j : Nat} (h : j < (ends l).length) : (rd_T47 l (j : Int)).f0 = ((ends l)[j]).1 ∧ (rd_T47 l (j : Int)).f1 = ((ends l)[j]).2 := by
  have hl : j < l.length := by simpa [ends] using h
  unfold rd_T47
  simp only [Int.toNat_natCast, List.getD_eq_getElem?_getD, List.getElem?_eq_getElem hl, Option.getD_some, ends, List.getElem_map, and_self]
theorem spec_l15Next_loop (l : List S47) (u : List Int) (v : Int) (hl : l.length ≤ 1000000) (hu : Unit1 (ends l) u) (t : List Int) : ∀ p : List Int, (∀ k ∈ t, v ≠ k ∧ 0 ≤ (edgeFrom v k 0 (ends l)).1) → (p ++ t).length ≤ 1000000 → Ev (fun k => spec_l15Next.l0 k l u v (p ++ t) ((p ++ t).length : Int) (p.length : Int)) (nextIn (ends l) u v t) := by
  induction t with
  | nil =>
    intro p _ _
    refine ev_succ.1 ?_
    simp only [spec_l15Next.l0, c_end, Int.lt_irrefl, if_false, ev_some]
    rfl
  | cons k t ih =>
    intro p hk hp
    obtain ⟨hvk, h0⟩ := hk k (by simp)
    have hn := ih (p ++ [k]) (fun y hy => hk y (by simp [hy])) (by rwa [← c_app])
    rw [← c_app, show (p ++ [k]).length = p.length + 1 from by simp] at hn
    have hw : wrap64 ((p.length : Int) + 1) = ((p.length + 1 : Nat) : Int) := by rw [c_next p k t (by omega)]; simp
    have hel : (ends l).length = l.length := by simp [ends]
    have hul := hu.1
    have hkv : ¬ k = v := fun e => hvk e.symm
    have hnum : Ev (fun n => spec_l15Number.f n l v k) (edgeFrom v k 0 (ends l)).1 := by rw [edgeFrom_num]; exact spec_l15Number_ev l v k (by omega)
    unfold nextIn
    refine ev_succ.1 ?_
    simp only [spec_l15Next.l0, c_lt, c_nn, c_rd, if_true, hw, ev_bind hnum]
    rcases edgeFrom_cases hvk (ends l) 0 with e | ⟨j, hj, e | e⟩
    · rw [e] at h0; simp at h0
    · obtain ⟨e1, e2⟩ := e
      rw [Nat.zero_add] at e1
      have hb := hu.2 (j : Int) (by omega) (by omega)
      have hr := rdE_both l hj
      rw [e2] at hr
      simp only [e1, hr.1, hr.2, hkv, if_false, if_true, show (0 ≤ (j : Int)) = True from eq_true (by omega), show ((j : Int) < (l.length : Int)) = True from eq_true (by omega), show ((j : Int) < (u.length : Int)) = True from eq_true (by omega), true_and, Int.toNat_natCast, ev_ite]
      by_cases h : rd u (j : Int) = 1
      · rw [if_pos h, if_pos h]; exact Ev.now _
      · rw [if_neg h, if_neg h]; exact hn
    · obtain ⟨e1, e2⟩ := e
      rw [Nat.zero_add] at e1
      have hb := hu.2 (j : Int) (by omega) (by omega)
      have hr := rdE_both l hj
      rw [e2] at hr
      simp only [e1, hr.1, hr.2, hkv, if_false, if_true, show (0 ≤ (j : Int)) = True from eq_true (by omega), show ((j : Int) < (l.length : Int)) = True from eq_true (by omega), show ((j : Int) < (u.length : Int)) = True from eq_true (by omega), true_and, Int.toNat_natCast, ev_ite]
      by_cases h : rd u (j : Int) = -1
      · rw [if_pos h, if_pos h]; exact Ev.now _
      · rw [if_neg h, if_neg h]; exact hn
theorem spec_l15Next_ev (n : Nat) (l : List S47) (u : List Int) (v : Int) (hl : l.length ≤ 1000000) (hn : n ≤ 1000) (hx3 : In3 n (l.map trip)) (ho : Once (l.map trip)) (hu : Unit1 (ends l) u) : Ev (fun k => spec_l15Next.f k l u v) (nextIn (ends l) u v (upto n)) := by
  have hte : (l.map trip).map (fun e => (e.1, e.2.1)) = ends l := by rw [List.map_map]; rfl
  have hord : ∀ e ∈ l.map trip, e.1 < e.2.1 := fun e he => (hx3 e he).2.1
  have hordE : ∀ e ∈ ends l, e.1 < e.2 := fun e he => by
    rw [← hte] at he
    obtain ⟨z, hz, rfl⟩ := List.mem_map.1 he
    exact hord z hz
  have hfil : nextIn (ends l) u v (nearF (l.map trip) v 0 n) = nextIn (ends l) u v (upto n) := by
    rw [nearF_upto]
    refine nextIn_filter _ _ _ _ (fun k hk => ?_) _
    by_cases hvk : v = k
    · subst hvk
      rw [no_loop hordE] at hk
      simp at hk
    · rw [← hte] at hk
      obtain ⟨c, hc⟩ := edge_adj hvk hk
      have hcc := adj_in hx3 hc
      rw [costV_adj (l.map trip) hord ho hc]
      simp only [decide_eq_true_eq]; omega
  have hmem : ∀ k ∈ nearF (l.map trip) v 0 n, v ≠ k ∧ 0 ≤ (edgeFrom v k 0 (ends l)).1 := by
    intro k hk
    obtain ⟨m0, m1, m2⟩ := (nearF_mem (l.map trip) v k n 0).1 hk
    have hc := costV_mem v k (l.map trip) hord (by omega)
    have hcc := adj_in hx3 hc
    have := adj_edge (l.map trip) 0 hc
    rw [hte] at this
    exact ⟨hcc.2.2.2.2, this⟩
  have hnl := nearF_length (l.map trip) v n 0
  unfold spec_l15Next.f
  simp only [ev_bind (spec_l8Near_ev n l v hx3 ho hl)]
  rw [← hfil]
  exact spec_l15Next_loop l u v hl hu _ [] hmem (by simp; omega)

theorem spec_l15Ways_walk (n : Nat) (l : List S47) (a b : Int) (hl : l.length ≤ 1000) (hn : n ≤ 1000) (hx3 : In3 n (l.map trip)) (ho : Once (l.map trip)) (ha : Apt (ends l)) (hwi : Within n (ends l)) (m : Int) (hm : 0 ≤ m) (out : List (List Int)) (hout : out.length ≤ 1000000) (R : List (List Int)) : ∀ (f : Nat) (w : List Int) (v : Int) (u : List Int), Going (ends l) a b m v u → usedN u < f → w.length + f ≤ 1000000 →
    Ev (fun k => spec_l15Ways.l0 k l a b (walkV (ends l) n b f w v u).2 (out ++ [(walkV (ends l) n b f w v u).1])) R → Ev (fun k => spec_l15Ways.l1 k l a b u out v w) R := by
  intro f
  induction f with
  | zero => intro w v u _ h; exact absurd h (by omega)
  | succ f ih =>
    intro w v u hg hus hwl h
    unfold walkV at h
    refine ev_succ.1 ?_
    by_cases hvb : v = b
    · rw [if_pos hvb] at h
      simp only [spec_l15Ways.l1, if_pos hvb, show (out.length < 5864062014805) = True from eq_true (by omega), if_true]
      exact h
    · rw [if_neg hvb] at h
      obtain ⟨k, hk, e, h1, h2, _⟩ := going_next ha hwi hg hm hvb
      rw [e] at h
      have hne := spec_l15Next_ev n l u v (by omega) hn hx3 ho hg.unit
      rw [e] at hne
      simp only [spec_l15Ways.l1, if_neg hvb, ev_bind hne, show (w.length < 17592186044416) = True from eq_true (by omega), if_true]
      exact ih (w ++ [k]) k _ h1 (by omega) (by simp; omega) h
theorem spec_l15Ways_loop (n : Nat) (l : List S47) (a b : Int) (hl : l.length ≤ 1000) (hn : n ≤ 1000) (hx3 : In3 n (l.map trip)) (ho : Once (l.map trip)) (ha : Apt (ends l)) (hwi : Within n (ends l)) (hab : b ≠ a) : ∀ (f : Nat) (m : Int) (out : List (List Int)) (u : List Int), 0 ≤ m → m < f → Flow (ends l) a b m u → out.length + f ≤ 100000 → Ev (fun k => spec_l15Ways.l0 k l a b u out) (waysF (ends l) n a b f out u) := by
  intro f
  induction f with
  | zero => intro m out u h0 h1; omega
  | succ f ih =>
    intro m out u h0 h1 hf hof
    have hne := spec_l15Next_ev n l u a (by omega) hn hx3 ho hf.unit
    have hel : (ends l).length = l.length := by simp [ends]
    unfold waysF
    refine ev_succ.1 ?_
    rcases flow_next ha hwi hf h0 hab with ⟨e, _⟩ | ⟨k, hk, e, hg, hm1, _⟩
    · rw [e] at hne ⊢
      simp only [spec_l15Ways.l0, ev_bind hne, show ((-1 : Int) < 0) = True from eq_true (by omega), if_true, ev_some]
    · rw [e] at hne ⊢
      have hus : usedN (u.set (edgeFrom a k 0 (ends l)).1.toNat 0) < (ends l).length + 1 := by
        have h1 := hg.unit.1
        have : usedN (u.set (edgeFrom a k 0 (ends l)).1.toNat 0) ≤ (u.set (edgeFrom a k 0 (ends l)).1.toNat 0).length := List.countP_le_length
        omega
      simp only [spec_l15Ways.l0, ev_bind hne, show (k < 0) = False from eq_false (by omega), if_false]
      refine spec_l15Ways_walk n l a b hl hn hx3 ho ha hwi (m - 1) (by omega) out (by omega) _ ((ends l).length + 1) [a, k] k _ hg hus (by simp; omega) ?_
      exact ih (m - 1) _ _ (by omega) (by omega) (walkV_flow ha hwi (by omega) ((ends l).length + 1) [a, k] k _ hg hus).1 (by simp; omega)
theorem spec_l15Ways_ev (n : Nat) (l : List S47) (a b : Int) (hl : l.length ≤ 1000) (hn : n ≤ 1000) (hx3 : In3 n (l.map trip)) (ho : Once (l.map trip)) (a0 : 0 ≤ a) (a1 : a < (n : Int)) (b0 : 0 ≤ b) (b1 : b < (n : Int)) (hab : b ≠ a) : Ev (fun k => spec_l15Ways.f k (n : Int) l a b) (waysF (ends l) n a b ((ends l).length + 1) [] (flowV (ends l) n a b)) := by
  have hte : (l.map trip).map (fun e => (e.1, e.2.1)) = ends l := by rw [List.map_map]; rfl
  have hap := apt_of hx3 ho
  rw [hte] at hap
  have hel : (ends l).length = l.length := by simp [ends]
  obtain ⟨m, hm, hf⟩ := flowV_flow (ab := ends l) a0 a1 b0 b1 hab
  unfold spec_l15Ways.f
  simp only [ev_bind (spec_l15Flow_ev n l a b (by omega) hn hx3 ho a0 a1 b0 b1 hab)]
  exact spec_l15Ways_loop n l a b hl hn hx3 ho hap.1 hap.2 hab _ m [] _ hm.1 (by omega) hf (by simp; omega)

end Go.Proofs.Ythambdfgkfkcmaa.Pure
