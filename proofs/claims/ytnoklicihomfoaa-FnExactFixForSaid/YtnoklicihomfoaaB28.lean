/- What functions of the program answer, as plain functions: used by the laws of this claim. -/
import Derived.Test.YtnoklicihomfoaaB0
import Derived.Test.YtnoklicihomfoaaF28
import Derived.Test.YtnoklicihomfoaaB1
import Derived.Test.YtnoklicihomfoaaB6
import Derived.Test.YtnoklicihomfoaaB27
import Derived.Test.YtnoklicihomfoaaB37
namespace Go.Proofs.Ytnoklicihomfoaa.Pure
open Go.RowKit Go.Proofs.Ytnoklicihomfoaa.P Go.Proofs.YtnoklicihomfoaaW.PrintWords Go.Proofs.Ytnoklicihomfoaa.Q
set_option linter.unusedVariables false
set_option linter.unusedSimpArgs false

theorem spec_l15Number_loop (a b : Int) (t : List S84) : ∀ p : List S84, (p ++ t).length ≤ 9223372036854775806 → Ev (fun k => spec_l15Number.l0 k a b (p ++ t) ((p ++ t).length : Int) (p.length : Int)) (numFrom a b p.length (ends t)) := by
  induction t with
  | nil =>
    intro p _
    refine ev_succ.1 ?_
    simp only [spec_l15Number.l0, c_end, Int.lt_irrefl, if_false, ev_some]
    rfl
  | cons x t ih =>
    intro p hb
    refine ev_succ.1 ?_
    have hn := ih (p ++ [x]) (by rwa [← c_app])
    rw [← c_app] at hn
    simp only [List.length_append, List.length_cons, List.length_nil, Nat.zero_add] at hn
    simp only [spec_l15Number.l0, c_lt, c_nn, rdE_at, c_next p x t hb, if_true, ev_ite, ev_some, ends, List.map_cons, numFrom]
    rw [ite_two]
    by_cases h : (x.f0 = a ∧ x.f1 = b) ∨ (x.f0 = b ∧ x.f1 = a)
    · rw [if_pos h, if_pos h]
    · rw [if_neg h, if_neg h]
      simpa [ends] using hn
theorem spec_l15Number_ev (l : List S84) (a b : Int) (h : l.length ≤ 9223372036854775806) : Ev (fun k => spec_l15Number.f k l a b) (numFrom a b 0 (ends l)) := spec_l15Number_loop a b l [] h

theorem spec_FixFor_in (n : Nat) (hn : n ≤ 12) (l : List S84) (hg : goodE (n : Int) (l.map trip) = true) (hw : Within n (ends l)) (h40 : l.length ≤ 40) (i : Nat) (hi : i < l.length) (v : Int × Int × Bool) (a : Int) (a0 : 0 ≤ a) (a1 : a < n) (hc : Ev (fun k => spec_FixFor.l0 k (n : Int) l (wrap64 (a + 1)) (rd_T84 l (i : Int)).f0 (rd_T84 l (i : Int)).f1 (rd_T84 l (i : Int)).f2) v) : ∀ (d : Nat) (b : Int), a < b → b + d = n → Ev (fun k => spec_FixFor.l1 k (n : Int) l a b (rd_T84 l (i : Int)).f0 (rd_T84 l (i : Int)).f1 (rd_T84 l (i : Int)).f2) (match fixIn (fixP n (l.map trip) (ends l) i) a d b with | some b => (a, b, true) | none => v) := by
  intro d
  induction d with
  | zero =>
    intro b hab hb
    refine ev_succ.1 ?_
    simp only [spec_FixFor.l1, show (b < (n : Int)) = False from eq_false (by omega), if_false, fixIn]
    exact hc
  | succ d ih =>
    intro b hab hb
    refine ev_succ.1 ?_
    have hnx := ih (b + 1) (by omega) (by omega)
    have hE : ∀ x ∈ l, x.f0 < x.f1 := fun x hx => by
      obtain ⟨m, hm, _, _, h3, _⟩ := goodE_open hg
      have := h3 (trip x) (List.mem_map_of_mem hx)
      simp only [trip] at this; omega
    have hmem : ∀ e, e ∈ ends (addS l a b) ↔ e ∈ ends l ++ [(a, b)] := by
      intro e
      simp only [ends, List.mem_map, List.mem_append, List.mem_singleton, addS_mem]
      constructor
      · rintro ⟨x, rfl | hx, rfl⟩
        · exact .inr rfl
        · exact .inl ⟨x, hx, rfl⟩
      · rintro (⟨x, hx, rfl⟩ | rfl)
        · exact ⟨x, .inr hx, rfl⟩
        · exact ⟨_, .inl rfl, rfl⟩
    have hw2 : Within n (ends l ++ [(a, b)]) := by
      intro e he
      rcases List.mem_append.1 he with he | he
      · exact hw e he
      · rw [List.mem_singleton.1 he]; simp only; omega
    have hwa : Within n (ends (addS l a b)) := fun e he => hw2 e ((hmem e).1 he)
    have hla : (addS l a b).length ≤ 1000000000 := by rw [addS_length]; omega
    have hadd := spec_l16Add_ev l a b (by omega)
    have hed := spec_l16Edges_ev n (addS l a b) hwa hla (by omega)
    have hcl : (cutL n (ends (addS l a b))).length ≤ 1000000000 := by
      have := cutFrom_length n (ends (addS l a b)) (ends (addS l a b)).length 0
      have e : (ends (addS l a b)).length = l.length + 1 := by simp [ends, addS_length]
      unfold cutL; omega
    have hrd : rd_T84 l (i : Int) = l[i] := by simp [rd_T84, List.getD_eq_getElem?_getD, hi]
    have hnum := spec_l15Number_ev (addS l a b) (rd_T84 l (i : Int)).f0 (rd_T84 l (i : Int)).f1 (by omega)
    have hhas := spec_l1Has_ev (cutL n (ends (addS l a b))) (numFrom (rd_T84 l (i : Int)).f0 (rd_T84 l (i : Int)).f1 0 (ends (addS l a b))) (by omega)
    have hcost := spec_l9Edge_ev l a b hE (by omega)
    simp only [spec_FixFor.l1, show (b < (n : Int)) = True from eq_true (by omega), if_true, ev_bind hcost, ev_ite, ev_some, w64 (n := b + 1) (by omega) (by omega)]
    have hP : fixP n (l.map trip) (ends l) i a b = (decide (costV (l.map trip) a b ≤ 0) && !decide (manyV n ((ends l ++ [(a, b)]).eraseIdx i) > manyV n (ends l ++ [(a, b)]))) := rfl
    simp only [fixIn, hP]
    by_cases h1 : costV (l.map trip) a b > 0
    · simp only [h1, if_true, show decide (costV (l.map trip) a b ≤ 0) = false from decide_eq_false (by omega), Bool.false_and, Bool.false_eq_true, if_false]
      exact hnx
    · have h1' : costV (l.map trip) a b ≤ 0 := by omega
      simp only [h1, if_false, decide_eq_true h1', Bool.true_and]
      have hno : ∀ x ∈ l, ¬ (x.f0 = a ∧ x.f1 = b) := by
        intro x hx
        have hpos : ∀ e ∈ l.map trip, 1 ≤ e.2.2 := by
          obtain ⟨m, hm, _, _, h3, _⟩ := goodE_open hg
          intro e he
          exact (h3 e he).2.2.2.1
        exact (costV_none hab (l.map trip) hpos).1 h1' (trip x) (List.mem_map_of_mem hx)
      have hnd : (ends l).Nodup := by
        have := goodE_nodup hg
        rw [List.map_map] at this
        exact this
      have hnd2 : (ends l ++ [(a, b)]).Nodup := by
        rw [List.nodup_append]
        refine ⟨hnd, by simp, fun x hx y hy => ?_⟩
        rw [List.mem_singleton.1 hy]
        obtain ⟨z, hz, rfl⟩ := List.mem_map.1 hx
        intro he
        injection he with e1 e2
        exact hno z hz ⟨e1, e2⟩
      have hlt : ∀ e ∈ ends (addS l a b), e.1 < e.2 := by
        intro e he
        rcases List.mem_append.1 ((hmem e).1 he) with he | he
        · obtain ⟨z, hz, rfl⟩ := List.mem_map.1 he
          exact hE z hz
        · rw [List.mem_singleton.1 he]; exact hab
      have hndA : (ends (addS l a b)).Nodup := by
        have : ∀ (q : List S84), (ends q).Nodup → (∀ x ∈ q, ¬ (x.f0 = a ∧ x.f1 = b)) → (ends (addS q a b)).Nodup := by
          intro q
          induction q with
          | nil => intro _ _; simp [addS, ends]
          | cons y q ihq =>
            intro hq hqn
            have hq' : (y.f0, y.f1) ∉ ends q ∧ (ends q).Nodup := by simpa [ends] using hq
            have hr := ihq hq'.2 (fun x hx => hqn x (by simp [hx]))
            have hy := hqn y (by simp)
            unfold addS
            split
            · show ((y.f0, y.f1) :: ends (addS q a b)).Nodup
              refine List.nodup_cons.2 ⟨fun hm => ?_, hr⟩
              obtain ⟨z, hz, he⟩ := List.mem_map.1 hm
              injection he with e1 e2
              rcases (addS_mem a b q z).1 hz with rfl | hz
              · exact hy ⟨e1.symm, e2.symm⟩
              · exact hq'.1 (List.mem_map.2 ⟨z, hz, by simp [e1, e2]⟩)
            · show ((a, b) :: ends (y :: q)).Nodup
              refine List.nodup_cons.2 ⟨fun hm => ?_, hq⟩
              obtain ⟨z, hz, he⟩ := List.mem_map.1 hm
              injection he with e1 e2
              exact hqn z hz ⟨e1, e2⟩
        exact this l hnd hno
      have hie : (l[i].f0, l[i].f1) ∈ ends (addS l a b) := (hmem _).2 (List.mem_append_left _ (List.mem_map.2 ⟨l[i], List.getElem_mem hi, rfl⟩))
      obtain ⟨j, hj, ej, hjx⟩ := numFrom_mem (hE l[i] (List.getElem_mem hi)) (ends (addS l a b)) 0 hlt hie
      rw [hrd] at hnum hhas
      rw [hrd]
      rw [ej, Nat.zero_add] at hnum hhas
      have hcf := cutFrom_has n (ends (addS l a b)) j (ends (addS l a b)).length 0
      have hm1 : manyV n (ends (addS l a b)) = manyV n (ends l ++ [(a, b)]) := manyV_congr hwa hmem
      have hil : i < (ends l ++ [(a, b)]).length := by simp [ends]; omega
      have hix : (ends l ++ [(a, b)])[i] = (l[i].f0, l[i].f1) := by
        rw [List.getElem_append_left (by simp [ends]; omega)]
        simp [ends]
      have hm2 : manyV n ((ends (addS l a b)).eraseIdx j) = manyV n ((ends l ++ [(a, b)]).eraseIdx i) := by
        refine manyV_congr (within_erase hwa j) fun e => ?_
        rw [mem_erase_iff _ j hj hndA, mem_erase_iff _ i hil hnd2, hmem, hjx, hix]
      have hval : hasB (j : Int) (cutL n (ends (addS l a b))) = decide (manyV n ((ends l ++ [(a, b)]).eraseIdx i) > manyV n (ends l ++ [(a, b)])) := by
        unfold cutL
        rw [hcf, hm1, hm2, decide_eq_true (show 0 ≤ j ∧ j < 0 + (ends (addS l a b)).length from ⟨by omega, by omega⟩), Bool.true_and]
      rw [hval] at hhas
      rw [hrd] at hnx
      simp only [ev_bind hadd, ev_bind hed, ev_bind hnum, ev_bind hhas, ev_ite, ev_some]
      by_cases h2 : manyV n ((ends l ++ [(a, b)]).eraseIdx i) > manyV n (ends l ++ [(a, b)])
      · simp only [decide_eq_true h2, if_true, Bool.not_true, Bool.false_eq_true, if_false]
        exact hnx
      · simp only [decide_eq_false h2, Bool.false_eq_true, if_false, Bool.not_false, if_true]
theorem spec_FixFor_out (n : Nat) (hn : n ≤ 12) (l : List S84) (hg : goodE (n : Int) (l.map trip) = true) (hw : Within n (ends l)) (h40 : l.length ≤ 40) (i : Nat) (hi : i < l.length) : ∀ (d : Nat) (a : Int), 0 ≤ a → a + d = n → Ev (fun k => spec_FixFor.l0 k (n : Int) l a (rd_T84 l (i : Int)).f0 (rd_T84 l (i : Int)).f1 (rd_T84 l (i : Int)).f2) (fixOut (fixP n (l.map trip) (ends l) i) n d a) := by
  intro d
  induction d with
  | zero =>
    intro a a0 ha
    refine ev_succ.1 ?_
    simp only [spec_FixFor.l0, show (a < (n : Int)) = False from eq_false (by omega), if_false, ev_some, fixOut]
  | succ d ih =>
    intro a a0 ha
    refine ev_succ.1 ?_
    simp only [spec_FixFor.l0, show (a < (n : Int)) = True from eq_true (by omega), if_true, w64 (n := a + 1) (by omega) (by omega), fixOut]
    have hnx := ih (a + 1) (by omega) (by omega)
    refine spec_FixFor_in n hn l hg hw h40 i hi _ a a0 (by omega) ?_ ((n : Int) - a - 1).toNat (a + 1) (by omega) (by omega)
    rw [w64 (by omega) (by omega)]
    exact hnx
theorem spec_FixFor_ev (n : Int) (l : List S84) (k : Int) (h : l.length ≤ 1000000000) : Ev (fun k_ => spec_FixFor.f k_ n l k) (if goodE n (l.map trip) && hasB k (cutL n.toNat (ends l)) then fixOut (fixP n.toNat (l.map trip) (ends l) k.toNat) n.toNat n.toNat 0 else (0, 0, false)) := by
  unfold spec_FixFor.f
  have ht : Ev (fun k_ => spec_FixFor.j0 k_ n l k true) (0, 0, false) := by
    refine ev_succ.1 ?_
    simp only [spec_FixFor.j0, if_true]
    exact Ev.now _
  simp only [ev_bind (spec_GoodEdges_ev n l (by omega)), ev_ite]
  cases hg : goodE n (l.map trip)
  · simpa using ht
  · obtain ⟨m, rfl, h1, h2, hw, h40⟩ := goodE_within hg
    have hcl : (cutL m (ends l)).length ≤ 1000000000 := by
      have := cutFrom_length m (ends l) (ends l).length 0
      have e : (ends l).length = l.length := by simp [ends]
      unfold cutL; omega
    simp only [if_true, Int.toNat_natCast, ev_bind (spec_l16Edges_ev m l hw h (by omega)), ev_bind (spec_l1Has_ev (cutL m (ends l)) k (by omega)), Bool.true_and]
    cases hk : hasB k (cutL m (ends l))
    · simpa using ht
    · obtain ⟨i, rfl, hi⟩ := cutL_has m (ends l) k hk
      have hi : i < l.length := by simpa [ends] using hi
      simp only [if_true, Int.toNat_natCast, Bool.not_true]
      refine ev_succ.1 ?_
      simp only [spec_FixFor.j0, Bool.false_eq_true, if_false, c_nn, if_true, show ((i : Int) < (l.length : Int)) = True from eq_true (by omega)]
      exact spec_FixFor_out m h2 l hg hw h40 i hi m 0 (by omega) (by omega)

end Go.Proofs.Ytnoklicihomfoaa.Pure
