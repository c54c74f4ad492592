/- The plain statement behind the law FnHits: for all arguments it answers true. -/
import Derived.Test.YtenedmcobknefaaB0
import Derived.Test.YtenedmcobknefaaF12
import Derived.Test.YtenedmcobknefaaB1
import Derived.Test.YtenedmcobknefaaB4
import Derived.Test.YtenedmcobknefaaB5
import Derived.Test.YtenedmcobknefaaB7
import Derived.Test.YtenedmcobknefaaB8
import Derived.Test.YtenedmcobknefaaB9
import Derived.Test.YtenedmcobknefaaB10
import Derived.Test.YtenedmcobknefaaB11
namespace Go.Proofs.Ytenedmcobknefaa.Pure
open Go.RowKit Go.Proofs.Ytenedmcobknefaa.P Go.Proofs.YtenedmcobknefaaW.PrintWords Go.Proofs.Ytenedmcobknefaa.Q
set_option linter.unusedVariables false
set_option linter.unusedSimpArgs false

theorem learnedV_length (room : Int) (l : List S27) (x : S27) : (learnedV room l x).2.1.length ≤ l.length + 1 := by
  have := learnV_length room l x
  unfold learnedV
  split
  · split
    · split
      · exact this
      · simp
    · simp
  · simp
theorem flushV_length (room : Int) (l : List S27) (a : Int) : (flushV room l a).2.1.length ≤ l.length := by
  unfold flushV
  split
  · split
    · exact List.length_filter_le _ _
    · simp
  · simp
theorem dropV_length (room : Int) (l : List S27) (a b : Int) : (dropV room l a b).2.1.length ≤ l.length := by
  unfold dropV
  split
  · split
    · split
      · exact List.length_filter_le _ _
      · simp
    · simp
  · simp
theorem FnHits_ends (m : List Int) (hm : bytesL m) : Ev (fun k => laws_FnHits.j3 k m) true := by
  obtain ⟨r, R, a, e1, h1⟩ := spec_DrawPortOf_ok m hm
  obtain ⟨r2, R2, a2, b2, e2, h2⟩ := spec_DrawDropOld_ok m hm
  obtain ⟨r3, R3, a3, e3, h3⟩ := spec_DrawFlushPort_ok m hm
  have i1 := impl_PortOf_ev r R a (by omega)
  have s1 := spec_PortOf_ev r R a (by omega)
  have i2 := impl_DropOld_ev r2 R2 a2 b2 (by omega)
  have s2 := spec_DropOld_ev r2 R2 a2 b2 (by omega)
  have i3 := impl_FlushPort_ev r3 R3 a3 (by omega)
  have s3 := spec_FlushPort_ev r3 R3 a3 (by omega)
  have l2 := dropV_length r2 R2 a2 b2
  have l3 := flushV_length r3 R3 a3
  generalize portV r R a = v1 at i1 s1
  generalize dropV r2 R2 a2 b2 = v2 at i2 s2 l2
  generalize flushV r3 R3 a3 = v3 at i3 s3 l3
  refine ev_succ.1 ?_
  simp only [laws_FnHits.j3, ev_bind e1, ev_bind i1, ev_bind s1, ev_bind e2, ev_bind i2, ev_bind s2, ev_bind e3, ev_bind i3, ev_bind s3, beq_self_eq_true, if_true, ev_bind (laws_sameTable_ev v2.1 v2.2.1 (by omega)), ev_bind (laws_sameTable_ev v3.1 v3.2.1 (by omega))]
  exact Ev.now _
theorem FnHits_loop (m : List Int) (x : S27) (hend : Ev (fun k => laws_FnHits.j3 k m) true) (t : List S27) : ∀ p : List S27, (p ++ t).length ≤ 1000000 → (∀ z ∈ t, x.f2 ≤ z.f2) → Ev (fun k => laws_FnHits.l0 k m (p ++ t) ((p ++ t).length : Int) (p.length : Int) x.f0 x.f1 x.f2) true := by
  induction t with
  | nil =>
    intro p _ _
    refine ev_succ.1 ?_
    simp only [laws_FnHits.l0, c_end, List.append_nil, Int.lt_irrefl, if_false]
    exact hend
  | cons y t ih =>
    intro p hb hz
    refine ev_succ.1 ?_
    have hi := ih (p ++ [y]) (by rwa [← c_app]) (fun z h => hz z (by simp [h]))
    rw [← c_app] at hi
    have := hz y (by simp)
    simp only [laws_FnHits.l0, c_lt, c_nn, rdSeen_at, c_next p y t (by omega), if_true, show (y.f2 < x.f2) = False from eq_false (by omega), if_false]
    exact hi
theorem FnHits_mid (m : List Int) (hend : Ev (fun k => laws_FnHits.j3 k m) true) (room : Int) (l : List S27) (x : S27) (hl : l.length ≤ 1000) : Ev (fun k => laws_FnHits.j0 k m (learnedV room l x).2.2 false x.f0 x.f1 x.f2 (learnedV room l x).1 (learnedV room l x).2.1) true := by
  refine ev_succ.1 ?_
  simp only [laws_FnHits.j0, Bool.false_eq_true, if_false, ev_ite]
  by_cases h1 : goodT room l = true
  · by_cases h2 : seen3 x.f0 x.f1 x.f2 = true
    · by_cases h3 : headB l x.f2 = true
      · have e : learnedV room l x = (room, learnV room l x, true) := by simp [learnedV, h1, h2, h3]
        have hs := h2
        simp only [seen3, Bool.and_eq_true] at hs
        obtain ⟨hs0, hs1, hs2⟩ := hs
        have hg := goodT_learn h1 x h2 h3
        have hlen := learnV_length room l x
        have hx2 := inB_iff.1 hs2
        have hw : wrap64 (x.f2 - 0) = x.f2 := by rw [w64 (by omega) (by omega)]; omega
        have ef : flushV room (learnV room l x) x.f1 = (room, (learnV room l x).filter (fun y => y.f1 != x.f1), true) := by simp [flushV, hg, hs1]
        have ed : dropV room (learnV room l x) x.f2 0 = (room, (learnV room l x).filter (fun y => decide (x.f2 ≤ y.f2)), true) := by
          unfold dropV
          rw [if_pos hg, if_pos hs2, if_pos (by decide), hw]
        have ep : portV room (learnV room l x) x.f0 = (x.f1, true) := portV_first hg
        have epf : portV room ((learnV room l x).filter (fun y => y.f1 != x.f1)) x.f0 = (0, false) := by
          refine portV_none fun y hy => ?_
          obtain ⟨hy1, hy2⟩ := List.mem_filter.1 hy
          rcases List.mem_cons.1 hy1 with rfl | hy1
          · simp at hy2
          · have := (List.mem_filter.1 (List.mem_of_mem_take hy1)).2
            simpa using this
        have hdg := goodT_filter hg (fun y => decide (x.f2 ≤ y.f2))
        have edx : (learnV room l x).filter (fun y => decide (x.f2 ≤ y.f2)) = x :: ((l.filter fun y => y.f0 != x.f0).take (room - 1).toNat).filter (fun y => decide (x.f2 ≤ y.f2)) := by
          unfold learnV
          rw [List.filter_cons_of_pos (by simp)]
        have epd : portV room ((learnV room l x).filter (fun y => decide (x.f2 ≤ y.f2))) x.f0 = (x.f1, true) := by
          rw [edx] at hdg ⊢
          exact portV_first hdg
        have hlf := List.length_filter_le (fun y : S27 => y.f1 != x.f1) (learnV room l x)
        have hld := List.length_filter_le (fun y : S27 => decide (x.f2 ≤ y.f2)) (learnV room l x)
        have i1 := impl_PortOf_ev room (learnV room l x) x.f0 (by omega)
        have i2 := impl_FlushPort_ev room (learnV room l x) x.f1 (by omega)
        have i3 := impl_PortOf_ev room ((learnV room l x).filter (fun y => y.f1 != x.f1)) x.f0 (by omega)
        have i4 := impl_DropOld_ev room (learnV room l x) x.f2 0 (by omega)
        have i5 := impl_PortOf_ev room ((learnV room l x).filter (fun y => decide (x.f2 ≤ y.f2))) x.f0 (by omega)
        have i6 := impl_GoodTable_ev room (learnV room l x) (by omega)
        rw [ep] at i1
        rw [ef] at i2
        rw [epf] at i3
        rw [ed] at i4
        rw [epd] at i5
        rw [hg] at i6
        rw [e]
        simp only [if_true, ev_bind i1, ev_bind i2, ev_bind i3, ev_bind i4, ev_bind i5, ev_bind i6, Bool.false_eq_true, if_false, bne_self_eq_false]
        refine ev_succ.1 ?_
        simp only [laws_FnHits.j1, Bool.false_eq_true, if_false]
        have hlp := FnHits_loop m x hend ((learnV room l x).filter (fun y => decide (x.f2 ≤ y.f2))) [] (by rw [List.nil_append]; omega) (fun z hz => by simpa using (List.mem_filter.1 hz).2)
        exact hlp
      · have e : learnedV room l x = (0, [], false) := by simp [learnedV, h1, h2, h3]
        rw [e]; simp only [Bool.false_eq_true, if_false]; exact hend
    · have e : learnedV room l x = (0, [], false) := by simp [learnedV, h1, h2]
      rw [e]; simp only [Bool.false_eq_true, if_false]; exact hend
  · have e : learnedV room l x = (0, [], false) := by simp [learnedV, h1]
    rw [e]; simp only [Bool.false_eq_true, if_false]; exact hend
theorem FnHits (l m : List Int) (hG : l.length ≤ maxLen ∧ ∀ y ∈ l, (Lit.int .u8 y).wf = true) (hM : m.length ≤ maxLen ∧ ∀ y ∈ m, (Lit.int .u8 y).wf = true) : ∃ k, laws_FnHits.f k l m = some true := by
  refine Ev.rounds ?_
  have hl := bytesL_wf hG.2
  have hm := bytesL_wf hM.2
  have hend := FnHits_ends m hm
  unfold laws_FnHits.f
  by_cases hbig : wrap64 ((l.length : Int) + (m.length : Int)) > 1048576
  · simp only [hbig, if_true]; exact Ev.now _
  obtain ⟨r, R, a, b, c, e1, h1⟩ := spec_DrawLearn_ok l hl
  have hi := impl_Learn_ev r R ⟨a, b, c⟩ (by omega)
  have hs := spec_Learn_ev r R ⟨a, b, c⟩ (by omega)
  have hlen := learnedV_length r R ⟨a, b, c⟩
  have hmid := FnHits_mid m hend r R ⟨a, b, c⟩ (by omega)
  generalize learnedV r R ⟨a, b, c⟩ = v at hi hs hlen hmid
  simp only at hi hs hmid
  simp only [hbig, if_false, ev_bind e1, ev_bind hi, ev_bind hs, bne_self_eq_false, Bool.false_eq_true, ev_bind (laws_sameTable_ev v.1 v.2.1 (by omega)), if_true, ev_bind (impl_GoodTable_ev r R (by omega)), ev_bind (spec_GoodTable_ev r R (by omega))]
  exact hmid

end Go.Proofs.Ytenedmcobknefaa.Pure
