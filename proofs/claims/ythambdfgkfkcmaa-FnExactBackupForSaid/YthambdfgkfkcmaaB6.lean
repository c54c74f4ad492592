/- What functions of the program answer, as plain functions: used by the laws of this claim. -/
import Derived.Test.YthambdfgkfkcmaaB0
import Derived.Test.YthambdfgkfkcmaaF6
import Derived.Test.YthambdfgkfkcmaaB4
import Derived.Test.YthambdfgkfkcmaaB5
import Derived.Test.YthambdfgkfkcmaaQFlow
import Derived.Test.YthambdfgkfkcmaaQGraph
import Derived.Test.YthambdfgkfkcmaaQShort
import Derived.Test.YthambdfgkfkcmaaQWay
import Derived.Test.YthambdfgkfkcmaaQWays
namespace Go.Proofs.Ythambdfgkfkcmaa.Pure
open Go.RowKit Go.Proofs.Ythambdfgkfkcmaa.P Go.Proofs.YthambdfgkfkcmaaW.PrintWords Go.Proofs.Ythambdfgkfkcmaa.Q
set_option linter.unusedVariables false
set_option linter.unusedSimpArgs false

theorem impl_flow_ways_scan (n : Nat) (l : List S47) (a b : Int) (u : List Int) (v : Int) (hl : l.length ≤ 1000000) (hn : n ≤ 1000) (hord : ∀ e ∈ ends l, e.1 < e.2) (hu : u.length = (ends l).length) (out : List (List Int)) (w : List Int) (hw : w.length ≤ 1000000) (R : List (List Int) × Int) : ∀ (d i : Nat), i + d = n → (∀ k : Int, 0 ≤ k → nextIn (ends l) u v (fromI i d) = (k, u.set (edgeFrom v k 0 (ends l)).1.toNat 0) → Ev (fun q => impl_flow_ways.l1 q a b out (w ++ [k]) k (n : Int) l (u.set (edgeFrom v k 0 (ends l)).1.toNat 0)) R) → (nextIn (ends l) u v (fromI i d) = (-1, u) → (out, (n : Int)) = R) → Ev (fun k => impl_flow_ways.l2 k a b out w v (-1) (i : Int) (n : Int) l u) R := by
  intro d
  induction d with
  | zero =>
    intro i hi _ h2
    have := h2 rfl
    refine ev_succ.1 ?_
    simp only [impl_flow_ways.l2, show ((i : Int) < (n : Int)) = False from eq_false (by omega), if_false]
    refine ev_succ.1 ?_
    simp only [impl_flow_ways.j3, Bool.false_eq_true, if_false, show ((-1 : Int) < 0) = True from eq_true (by omega), if_true, ev_some]
    exact this
  | succ d ih =>
    intro i hi h1 h2
    have hwi : wrap64 ((i : Int) + 1) = ((i + 1 : Nat) : Int) := by clear h1 h2 ih; rw [w64 (by omega) (by omega)]; omega
    unfold fromI nextIn at h1 h2
    have he := impl_flow_edge_ev (n : Int) l u v (i : Int) (by omega)
    have hfound : ∀ (x : Int) (u' : List Int), 0 ≤ x → Ev (fun q => impl_flow_ways.l1 q a b out (w ++ [x]) x (n : Int) l u') R → Ev (fun q => impl_flow_ways.l2 q a b out w v x ((i + 1 : Nat) : Int) (n : Int) l u') R := by
      intro x u' hx h
      have hj : Ev (fun q => impl_flow_ways.j3 q a b out w v x ((i + 1 : Nat) : Int) false (n : Int) l u') R := by
        refine ev_succ.1 ?_
        simp only [impl_flow_ways.j3, Bool.false_eq_true, if_false, show (x < 0) = False from eq_false (by omega), show (w.length < 17592186044416) = True from eq_true (by omega), if_true]
        exact h
      refine ev_succ.1 ?_
      simp only [impl_flow_ways.l2, show decide (x < 0) = false from by simpa using hx]
      by_cases hc : ((i + 1 : Nat) : Int) < (n : Int)
      · simp only [hc, if_true]; exact hj
      · simp only [hc, if_false]; exact hj
    refine ev_succ.1 ?_
    simp only [impl_flow_ways.l2, show ((i : Int) < (n : Int)) = True from eq_true (by omega), if_true, show decide ((-1 : Int) < 0) = true from rfl]
    refine ev_succ.1 ?_
    simp only [impl_flow_ways.j3, if_true, ev_bind he, hwi]
    by_cases hvi : v = (i : Int)
    · have e0 : edgeFrom v (i : Int) 0 (ends l) = (-1, 0) := by rw [← hvi]; exact no_loop hord 0
      rw [e0] at h1 h2 ⊢
      simp only [show ((-1 : Int) ≥ 0) = False from eq_false (by omega), show ((0 : Int) ≤ -1) = False from eq_false (by omega), false_and, if_false] at h1 h2 ⊢
      exact ih (i + 1) (by omega) h1 h2
    · rcases edgeFrom_cases hvi (ends l) 0 with e0 | ⟨j, hj, e0⟩
      · rw [e0] at h1 h2 ⊢
        simp only [show ((-1 : Int) ≥ 0) = False from eq_false (by omega), show ((0 : Int) ≤ -1) = False from eq_false (by omega), false_and, if_false] at h1 h2 ⊢
        exact ih (i + 1) (by omega) h1 h2
      · have key : ∀ dd : Int, edgeFrom v (i : Int) 0 (ends l) = ((j : Int), dd) → Ev (fun k => if (edgeFrom v (i : Int) 0 (ends l)).1 ≥ 0 then (if 0 ≤ (edgeFrom v (i : Int) 0 (ends l)).1 then (if (edgeFrom v (i : Int) 0 (ends l)).1 < (u.length : Int) then (if rd u (edgeFrom v (i : Int) 0 (ends l)).1 = (edgeFrom v (i : Int) 0 (ends l)).2 then impl_flow_ways.l2 k a b out w v (i : Int) ((i + 1 : Nat) : Int) (n : Int) l (u.set (edgeFrom v (i : Int) 0 (ends l)).1.toNat 0) else impl_flow_ways.l2 k a b out w v (-1) ((i + 1 : Nat) : Int) (n : Int) l u) else none) else none) else impl_flow_ways.l2 k a b out w v (-1) ((i + 1 : Nat) : Int) (n : Int) l u) R := by
          intro dd ed
          simp only [ed, show ((j : Int) ≥ 0) = True from eq_true (by omega), show (0 ≤ (j : Int)) = True from eq_true (by omega), show ((j : Int) < (u.length : Int)) = True from eq_true (by omega), if_true, true_and, ev_ite] at h1 h2 ⊢
          by_cases hr : rd u (j : Int) = dd
          · rw [if_pos hr]
            refine hfound (i : Int) _ (by omega) ?_
            have := h1 (i : Int) (by omega) (by rw [if_pos hr, ed])
            rwa [ed] at this
          · rw [if_neg hr]
            simp only [hr, if_false] at h1 h2
            exact ih (i + 1) (by omega) h1 h2
        rcases e0 with ⟨e0, _⟩ | ⟨e0, _⟩ <;> rw [Nat.zero_add] at e0 <;> exact key _ e0
theorem impl_flow_ways_walk (n : Nat) (l : List S47) (a b : Int) (hl : l.length ≤ 1000) (hn : n ≤ 1000) (ha : Apt (ends l)) (hwi : Within n (ends l)) (m : Int) (hm : 0 ≤ m) (out : List (List Int)) (hout : out.length ≤ 1000000) (R : List (List Int) × Int) : ∀ (f : Nat) (w : List Int) (v : Int) (u : List Int), Going (ends l) a b m v u → usedN u < f → w.length + f ≤ 1000000 →
    Ev (fun k => impl_flow_ways.l0 k a b (out ++ [(walkV (ends l) n b f w v u).1]) (n : Int) l (walkV (ends l) n b f w v u).2) R → Ev (fun k => impl_flow_ways.l1 k a b out w v (n : Int) l u) R := by
  intro f
  induction f with
  | zero => intro w v u _ h; exact absurd h (by omega)
  | succ f ih =>
    intro w v u hg hus hwl h
    unfold walkV at h
    refine ev_succ.1 ?_
    by_cases hvb : v = b
    · rw [if_pos hvb] at h
      simp only [impl_flow_ways.l1, if_pos hvb, show (out.length < 5864062014805) = True from eq_true (by omega), if_true]
      exact h
    · rw [if_neg hvb] at h
      obtain ⟨k, hk, e, h1, h2, _⟩ := going_next ha hwi hg hm hvb
      rw [e] at h
      simp only [impl_flow_ways.l1, if_neg hvb]
      refine impl_flow_ways_scan n l a b u v (by omega) hn ha.1 hg.unit.1 out w (by omega) R n 0 (by omega) (fun k2 hk2 e2 => ?_) (fun e2 => ?_)
      · rw [← upto_from, e] at e2
        injection e2 with e3 e4
        subst e3
        exact ih (w ++ [k]) k _ h1 (by omega) (by simp; omega) h
      · rw [← upto_from, e] at e2
        injection e2 with e3 e4
        omega
theorem impl_flow_ways_loop (n : Nat) (l : List S47) (a b : Int) (hl : l.length ≤ 1000) (hn : n ≤ 1000) (ha : Apt (ends l)) (hwi : Within n (ends l)) (hab : b ≠ a) : ∀ (f : Nat) (m : Int) (out : List (List Int)) (u : List Int), 0 ≤ m → m < f → Flow (ends l) a b m u → out.length + f ≤ 100000 → Ev (fun k => impl_flow_ways.l0 k a b out (n : Int) l u) (waysF (ends l) n a b f out u, (n : Int)) := by
  intro f
  induction f with
  | zero => intro m out u h0 h1; omega
  | succ f ih =>
    intro m out u h0 h1 hf hof
    have hel : (ends l).length = l.length := by simp [ends]
    have hba : ¬ a = b := fun e => hab e.symm
    unfold waysF
    refine ev_succ.1 ?_
    simp only [impl_flow_ways.l0]
    refine ev_succ.1 ?_
    simp only [impl_flow_ways.l1, if_neg hba]
    refine impl_flow_ways_scan n l a b u a (by omega) hn ha.1 hf.unit.1 out [a] (by simp) _ n 0 (by omega) (fun k2 hk2 e2 => ?_) (fun e2 => ?_)
    · rw [← upto_from] at e2
      rcases flow_next ha hwi hf h0 hab with ⟨e, _⟩ | ⟨k, hk, e, hg, hm1, _⟩
      · rw [e] at e2
        injection e2 with e3 e4
        omega
      · rw [e] at e2 ⊢
        injection e2 with e3 e4
        subst e3
        have hus : usedN (u.set (edgeFrom a k 0 (ends l)).1.toNat 0) < (ends l).length + 1 := by
          have h1 := hg.unit.1
          have : usedN (u.set (edgeFrom a k 0 (ends l)).1.toNat 0) ≤ (u.set (edgeFrom a k 0 (ends l)).1.toNat 0).length := List.countP_le_length
          omega
        simp only [show (k < 0) = False from eq_false (by omega), if_false]
        refine impl_flow_ways_walk n l a b hl hn ha hwi (m - 1) (by omega) out (by omega) _ ((ends l).length + 1) [a, k] k _ hg hus (by simp; omega) ?_
        exact ih (m - 1) _ _ (by omega) (by omega) (walkV_flow ha hwi (by omega) ((ends l).length + 1) [a, k] k _ hg hus).1 (by simp; omega)
    · rw [← upto_from] at e2
      rw [e2]
      simp only [show ((-1 : Int) < 0) = True from eq_true (by omega), if_true]

theorem impl_waysApart_ev (n : Nat) (l : List S47) (a b : Int) (hl : l.length ≤ 1000) (hn : n ≤ 1000) (hx3 : In3 n (l.map trip)) (ho : Once (l.map trip)) (a0 : 0 ≤ a) (a1 : a < (n : Int)) (b0 : 0 ≤ b) (b1 : b < (n : Int)) (hab : b ≠ a) : Ev (fun k => impl_waysApart.f k (n : Int) l a b) (waysF (ends l) n a b ((ends l).length + 1) [] (flowV (ends l) n a b)) := by
  have hte : (l.map trip).map (fun e => (e.1, e.2.1)) = ends l := by rw [List.map_map]; rfl
  have hap := apt_of hx3 ho
  rw [hte] at hap
  have hel : (ends l).length = l.length := by simp [ends]
  obtain ⟨m, hm, hf⟩ := flowV_flow (ab := ends l) a0 a1 b0 b1 hab
  have hw : Ev (fun k => impl_flow_ways.f k (n : Int) l (flowV (ends l) n a b) a b) (waysF (ends l) n a b ((ends l).length + 1) [] (flowV (ends l) n a b), (n : Int)) := by
    unfold impl_flow_ways.f
    exact impl_flow_ways_loop n l a b hl hn hap.1 hap.2 hab _ m [] _ hm.1 (by omega) hf (by simp; omega)
  unfold impl_waysApart.f
  simp only [ev_bind (impl_flowOf_ev n l a b (by omega) hn a0 a1 b0 b1 hab), ev_bind hw, ev_some]

theorem impl_WaysApart_ev (n : Int) (l : List S47) (a b : Int) (hl : l.length ≤ 1048576) : Ev (fun k => impl_WaysApart.f k n l a b) (waysV n (l.map trip) (ends l) a b) := by
  unfold impl_WaysApart.f
  have e : (goodE n (l.map trip) && allB 0 (wrap64 (n - 1)) [a, b]) = (goodE n (l.map trip) && (inB 0 (wrap64 (n - 1)) a && inB 0 (wrap64 (n - 1)) b)) := by
    simp only [allB_cons, allB_nil, Bool.and_true]
  simp only [ev_bind (impl_goodAt_ev n l [a, b] (by omega) (by simp)), e, ev_ite]
  cases g : goodE n (l.map trip) && (inB 0 (wrap64 (n - 1)) a && inB 0 (wrap64 (n - 1)) b)
  · simp only [Bool.false_eq_true, if_false, ev_some, waysV, g, Bool.false_and]
  · simp only [if_true]
    by_cases hab : a = b
    · rw [if_pos hab]
      simp only [ev_some, waysV, hab, bne_self_eq_false, Bool.and_false, Bool.false_eq_true, if_false]
    · rw [if_neg hab]
      have hg : (goodE n (l.map trip) && (inB 0 (wrap64 (n - 1)) a && inB 0 (wrap64 (n - 1)) b) && (a != b)) = true := by rw [g]; simpa using hab
      obtain ⟨m, rfl, m1, m2, m3, m4, a0, a1, b0, b1, hba⟩ := goodE_all hg
      rw [List.length_map] at m4
      simp only [ev_bind (impl_waysApart_ev m l a b (by omega) (by omega) m2 m3 a0 a1 b0 b1 hba), waysV, hg, if_true, Int.toNat_natCast, ev_some]

end Go.Proofs.Ythambdfgkfkcmaa.Pure
