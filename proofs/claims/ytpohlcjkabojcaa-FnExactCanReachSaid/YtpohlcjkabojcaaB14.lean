/- What functions of the program answer, as plain functions: used by the laws of this claim. -/
import Derived.Test.YtpohlcjkabojcaaB0
import Derived.Test.YtpohlcjkabojcaaF14
import Derived.Test.YtpohlcjkabojcaaB2
import Derived.Test.YtpohlcjkabojcaaB11
import Derived.Test.YtpohlcjkabojcaaB13
import Derived.Test.YtpohlcjkabojcaaQGraph
import Derived.Test.YtpohlcjkabojcaaQHaves
import Derived.Test.YtpohlcjkabojcaaQShort
namespace Go.Proofs.Ytpohlcjkabojcaa.Pure
open Go.RowKit Go.Proofs.Ytpohlcjkabojcaa.P Go.Proofs.YtpohlcjkabojcaaW.PrintWords Go.Proofs.Ytpohlcjkabojcaa.Q
set_option linter.unusedVariables false
set_option linter.unusedSimpArgs false

-- needs QGraph
theorem spec_l8Groups_in (n : Nat) (l : List S86) (hw : Within n (ends l)) (hb : l.length ≤ 1000000000) (x20 x21 : Int) (v : List Int) (t : List S86) : ∀ (p : List S86) (g : List Int), p ++ t = l → g.length = n → (Ev (fun k => spec_l8Groups.l1 k l (pass (ends t) g) x20 (wrap64 (x21 + 1))) v) → Ev (fun k => spec_l8Groups.l2 k l g x20 x21 l (l.length : Int) (p.length : Int)) v := by
  induction t with
  | nil =>
    intro p g e hg hc
    refine ev_succ.1 ?_
    subst e
    simp only [spec_l8Groups.l2, c_end, Int.lt_irrefl, if_false]
    exact hc
  | cons x t ih =>
    intro p g e hg hc
    have hxm : (x.f0, x.f1) ∈ ends l := by rw [← e]; simp [ends]
    have hb2 : (p ++ x :: t).length ≤ 1000000000 := by rw [e]; exact hb
    obtain ⟨b0, b1, b2, b3⟩ := hw _ hxm
    simp only at b0 b1 b2 b3
    refine ev_succ.1 ?_
    have e1 : ((p.length : Int) < (l.length : Int)) = True := by rw [← e]; exact c_lt _ _ _
    have e2 : rd_T86 l (p.length : Int) = x := by rw [← e]; exact rdE_at _ _ _
    simp only [spec_l8Groups.l2, e1, e2, c_nn, if_true, hg, show (0 ≤ x.f0) = True from eq_true b0, show (x.f0 < (n : Int)) = True from eq_true b1, show (0 ≤ x.f1) = True from eq_true b2, show (x.f1 < (n : Int)) = True from eq_true b3, spec_l1Least_eq, Option.bind_some, c_next p x t (by omega)]
    exact ih (p ++ [x]) (relax1 g (x.f0, x.f1)) (by rw [← e]; simp) (by rw [relax1_length]; exact hg) hc
theorem spec_l8Groups_out (n : Nat) (l : List S86) (hw : Within n (ends l)) (hb : l.length ≤ 1000000000) (hn : n ≤ 1000000000) : ∀ (d i : Nat) (g : List Int), i + d = n → g.length = n → Ev (fun k => spec_l8Groups.l1 k l g (n : Int) (i : Int)) (passes (ends l) d g) := by
  intro d
  induction d with
  | zero =>
    intro i g hi hg
    refine ev_succ.1 ?_
    simp only [spec_l8Groups.l1, show ((i : Int) < (n : Int)) = False from eq_false (by omega), if_false, ev_some, passes]
  | succ d ih =>
    intro i g hi hg
    refine ev_succ.1 ?_
    simp only [spec_l8Groups.l1, show ((i : Int) < (n : Int)) = True from eq_true (by omega), if_true, passes]
    refine spec_l8Groups_in n l hw hb (n : Int) (i : Int) _ l [] g rfl hg ?_
    rw [w64 (by omega) (by omega)]
    exact ih (i + 1) (pass (ends l) g) (by omega) (by rw [pass_length]; exact hg)
theorem spec_l8Groups_ev (n : Nat) (l : List S86) (hw : Within n (ends l)) (hb : l.length ≤ 1000000000) (hn : n ≤ 1000000000) : Ev (fun k => spec_l8Groups.f k (n : Int) l) (groupsV n (ends l)) := by
  have h : ∀ (d i : Nat), i + d = n → Ev (fun k => spec_l8Groups.l0 k (n : Int) l (initG i) (i : Int)) (groupsV n (ends l)) := by
    intro d
    induction d with
    | zero =>
      intro i hi
      obtain rfl : i = n := by omega
      refine ev_succ.1 ?_
      simp only [spec_l8Groups.l0, Int.lt_irrefl, if_false, initG_length]
      exact spec_l8Groups_out i l hw hb hn i 0 (initG i) (by omega) (initG_length i)
    | succ d ih =>
      intro i hi
      refine ev_succ.1 ?_
      simp only [spec_l8Groups.l0, show ((i : Int) < (n : Int)) = True from eq_true (by omega), if_true, initG_length, show (i < 17592186044416) = True from eq_true (by omega), w64 (n := (i : Int) + 1) (by omega) (by omega)]
      have := ih (i + 1) (by omega)
      rw [show initG (i + 1) = initG i ++ [(i : Int)] by simp [initG, List.range_succ]] at this
      exact this
  exact h n 0 (by omega)

theorem spec_CanReach_ev (n : Int) (l : List S86) (d : List Int) (h : List S130) (a b : Int) (hl : l.length ≤ 1000000000) (hd : d.length ≤ 1000000000) (hh : plSize h ≤ 1000000000) : Ev (fun k => spec_CanReach.f k n l d h a b) ((sendAny n l d h a b).2.1, (sendAny n l d h a b).2.2) := by
  unfold spec_CanReach.f sendAny
  simp only [ev_bind (spec_l17Spots_ev n l d h a b hl hd hh)]
  cases hg : goodC n (l.map trip) d (h.map pl3)
  · simp only [Bool.false_eq_true, if_false]; exact Ev.now _
  · simp only [if_true]
    cases h1 : (spotP h a).2
    · simp only [Bool.false_eq_true, if_false]; exact Ev.now _
    · simp only [if_true]
      cases h2 : (spotP h b).2
      · simp only [Bool.false_eq_true, if_false]; exact Ev.now _
      · obtain ⟨m, rfl, m1, m2, i3, on, l40, _, hp, _⟩ := goodC_open hg
        obtain ⟨p, pm, pe⟩ := spotP_mem h1
        obtain ⟨q, qm, qe⟩ := spotP_mem h2
        have p1 := hp p pm
        have q1 := hp q qm
        rw [← pe] at p1
        rw [← qe] at q1
        have hwi : Within m (ends (dropFrom d 0 l)) := fun e he => by
          obtain ⟨x, hx, rfl⟩ := List.mem_map.1 he
          have := i3 (trip x) (List.mem_map_of_mem hx)
          simp only [trip] at this
          simp only
          omega
        have he : (((dropFrom d 0 l).map trip).map fun e => (e.1, e.2.1)) = ends (dropFrom d 0 l) := by simp [ends, trip, Function.comp_def]
        have hc := farsV_conn m2 i3 q1.2.2.1 q1.2.2.2 p1.2.2.1 p1.2.2.2
        rw [he, ← groupsV_conn hwi p1.2.2.1 p1.2.2.2 q1.2.2.1 q1.2.2.2] at hc
        simp only [if_true, ev_bind (spec_l17Up_ev (m : Int) l d h hl hd), ev_bind (spec_l8Groups_ev m (dropFrom d 0 l) hwi (by omega) (by omega)), groupsV_length, show (0 ≤ (spotP h a).1) = True from eq_true p1.2.2.1, show ((spotP h a).1 < (m : Int)) = True from eq_true p1.2.2.2, show (0 ≤ (spotP h b).1) = True from eq_true q1.2.2.1, show ((spotP h b).1 < (m : Int)) = True from eq_true q1.2.2.2, Int.toNat_natCast, sendV]
        by_cases h3 : rd (farsV m ((dropFrom d 0 l).map trip) (spotP h b).1) (spotP h a).1 = 100000
        · have h4 : (rd (groupsV m (ends (dropFrom d 0 l))) (spotP h a).1 == rd (groupsV m (ends (dropFrom d 0 l))) (spotP h b).1) = false := beq_eq_false_iff_ne.2 (fun e => hc.2 e h3)
          simp only [h3, h4, if_true]; exact Ev.now _
        · have h4 : (rd (groupsV m (ends (dropFrom d 0 l))) (spotP h a).1 == rd (groupsV m (ends (dropFrom d 0 l))) (spotP h b).1) = true := beq_iff_eq.2 (hc.1 h3)
          simp only [h3, h4, if_false]; exact Ev.now _

theorem impl_CanReach_ev (n : Int) (l : List S86) (d : List Int) (h : List S130) (a b : Int) (ha : (Lit.int .i64 a).wf = true) (hb : (Lit.int .i64 b).wf = true) (hl : l.length ≤ 1000000000) (hd : d.length ≤ 1000000000) (hh : plSize h ≤ 1000000000) : Ev (fun k => impl_CanReach.f k n l d h a b) ((sendAny n l d h a b).2.1, (sendAny n l d h a b).2.2) := by
  unfold impl_CanReach.f
  simp only [ev_bind (impl_SendOne_ev n l d h a b ha hb hl hd hh), ev_some]

end Go.Proofs.Ytpohlcjkabojcaa.Pure
