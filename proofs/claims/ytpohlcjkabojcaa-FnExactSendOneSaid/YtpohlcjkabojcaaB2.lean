/- What functions of the program answer, as plain functions: used by the laws of this claim. -/
import Derived.Test.YtpohlcjkabojcaaB0
import Derived.Test.YtpohlcjkabojcaaF2
import Derived.Test.YtpohlcjkabojcaaB1
import Derived.Test.YtpohlcjkabojcaaQGraph
import Derived.Test.YtpohlcjkabojcaaQHaves
import Derived.Test.YtpohlcjkabojcaaQShort
import Derived.Test.YtpohlcjkabojcaaQWay
namespace Go.Proofs.Ytpohlcjkabojcaa.Pure
open Go.RowKit Go.Proofs.Ytpohlcjkabojcaa.P Go.Proofs.YtpohlcjkabojcaaW.PrintWords Go.Proofs.Ytpohlcjkabojcaa.Q
set_option linter.unusedVariables false
set_option linter.unusedSimpArgs false

theorem spec_GoodCampus_loop (n : Int) (l : List S86) (d : List Int) (hl : l.length ≤ 1000000000) (hd : d.length ≤ 1000000000) (t : List S130) : ∀ p : List S130, (p ++ t).length ≤ 1000000000 → (∀ x ∈ t, x.f2.length ≤ 1000000000) → Ev (fun k => spec_GoodCampus.l0 k (p ++ t) ((p ++ t).length : Int) (p.length : Int) n l d (p ++ t)) (placesB (wrap64 (n - 1)) (p.getLast?.map fun q => q.f0) (t.map pl3) && (goodE n (l.map trip) && ((allB 0 ((l.length : Int) - 1) d && chainB none d) && decide ((p ++ t).length ≤ 12)))) := by
  induction t with
  | nil =>
    intro p hb _
    refine ev_succ.1 ?_
    simp only [spec_GoodCampus.l0, c_end, Int.lt_irrefl, if_false, ev_bind (spec_GoodEdges_ev n l (by omega)), w64 (n := (l.length : Int) - 1) (by omega) (by omega), ev_bind (spec_l1Rising_ev 0 ((l.length : Int) - 1) d (by omega)), ev_ite, ev_some]
    have e : (decide (((p ++ []).length : Int) ≤ 12)) = decide ((p ++ []).length ≤ 12) := decide_eq_decide.2 (by omega)
    rw [e]
    simp only [List.map_nil, placesB_nil, Bool.true_and]
    cases goodE n (l.map trip) <;> cases allB 0 ((l.length : Int) - 1) d <;> cases chainB none d <;> simp
  | cons x t ih =>
    intro p hb hx
    refine ev_succ.1 ?_
    have hn := ih (p ++ [x]) (by rwa [← c_app]) (fun y hy => hx y (by simp [hy]))
    rw [← c_app] at hn
    simp only [List.getLast?_append, List.getLast?_singleton, Option.some_or, Option.map_some] at hn
    simp only [spec_GoodCampus.l0, c_lt, c_nn, rdPlace_at, c_next p x t (by omega), if_true, ev_bind (spec_l17Place_ev n l d (p ++ x :: t) x.f0 x.f1 x.f2 (by have := hx x (by simp); omega)), ev_ite, ev_some, List.map_cons, placesB_cons, pl3]
    cases h1 : (inB 1 99 x.f0 && (inB 0 (wrap64 (n - 1)) x.f1 && (allB 1 20 x.f2 && chainB none x.f2)))
    · simp
    · simp only [if_true, Bool.true_and]
      rcases List.eq_nil_or_concat p with rfl | ⟨q, y, rfl⟩
      · simpa using hn
      · simp only [List.concat_eq_append] at *
        have e1 : wrap64 (((q ++ [y]).length : Int) - 1) = (q.length : Int) := by
          simp only [List.length_append, List.length_cons, List.length_nil] at hb ⊢
          unfold wrap64; omega
        have e2 : rd_T130 (q ++ [y] ++ x :: t) (q.length : Int) = y := by rw [← c_app]; exact rdPlace_at _ _ _
        have e3 : ((q.length : Int) < ((q ++ [y] ++ x :: t).length : Int)) = True := by rw [← c_app]; exact c_lt _ _ _
        have e4 : (((q ++ [y]).length : Int) > 0) = True := eq_true (by simp)
        simp only [e1, e2, e3, e4, c_nn, if_true, ev_some, List.getLast?_append, List.getLast?_singleton, Option.some_or, Option.map_some]
        by_cases h3 : y.f0 ≥ x.f0
        · simp [h3, ev_some, show ¬ y.f0 < x.f0 by omega]
        · simp only [h3, if_false]
          simpa [show y.f0 < x.f0 by omega] using hn
theorem spec_GoodCampus_ev (n : Int) (l : List S86) (d : List Int) (h : List S130) (hl : l.length ≤ 1000000000) (hd : d.length ≤ 1000000000) (hh : plSize h ≤ 1000000000) : Ev (fun k => spec_GoodCampus.f k n l d h) (goodC n (l.map trip) d (h.map pl3)) := by
  have h2 := plSize_mem h _ hh
  unfold spec_GoodCampus.f goodC
  have := spec_GoodCampus_loop n l d hl hd h [] (by simpa using h2.1) h2.2
  simp only [List.nil_append, List.length_nil, List.getLast?_nil, Option.map_none, List.length_map] at this ⊢
  exact this

theorem spec_l1Has_loop (x1 : Int) (t : List Int) : ∀ p : List Int, (p ++ t).length ≤ 9223372036854775806 → Ev (fun k => spec_l1Has.l0 k x1 (p ++ t) ((p ++ t).length : Int) (p.length : Int)) (hasB x1 t) := by
  induction t with
  | nil =>
    intro p _
    refine ev_succ.1 ?_
    simp only [spec_l1Has.l0, c_end, Int.lt_irrefl, if_false, ev_some]
    rfl
  | cons x t ih =>
    intro p hb
    refine ev_succ.1 ?_
    have hn := ih (p ++ [x]) (by rwa [← c_app])
    rw [← c_app] at hn
    simp only [spec_l1Has.l0, c_lt, c_nn, c_rd, c_next p x t hb, if_true, ev_ite, ev_some]
    by_cases h : x = x1
    · simp [h, hasB]
    · simpa [h, hasB, show ¬ x1 = x from fun h2 => h h2.symm] using hn
theorem spec_l1Has_ev (l : List Int) (x : Int) (h : l.length ≤ 9223372036854775806) : Ev (fun k => spec_l1Has.f k l x) (hasB x l) := spec_l1Has_loop x l [] h

theorem spec_l15Without_loop (cut : List Int) (hc : cut.length ≤ 1000000000) (t : List S86) : ∀ (p o : List S86), (p ++ t).length ≤ 1000000000 → o.length ≤ p.length → Ev (fun k => spec_l15Without.l0 k cut o (p ++ t) ((p ++ t).length : Int) (p.length : Int)) (o ++ dropFrom cut p.length t) := by
  induction t with
  | nil =>
    intro p o _ _
    refine ev_succ.1 ?_
    simp only [spec_l15Without.l0, c_end, Int.lt_irrefl, if_false, ev_some, dropFrom, List.append_nil]
  | cons x t ih =>
    intro p o hb ho
    have hpl : p.length ≤ 1000000000 := by simp at hb; omega
    refine ev_succ.1 ?_
    simp only [spec_l15Without.l0, c_lt, c_nn, rdE_at, etaE, c_next p x t (by omega), if_true, ev_ite, ev_bind (spec_l1Has_ev cut (p.length : Int) (by omega)), show (o.length < 5864062014805) = True from eq_true (by omega), dropFrom]
    have h0 := ih (p ++ [x]) o (by rwa [← c_app]) (by simp; omega)
    have h1 := ih (p ++ [x]) (o ++ [x]) (by rwa [← c_app]) (by simp; omega)
    rw [← c_app] at h0 h1
    cases hasB (p.length : Int) cut
    · simpa using h1
    · simpa using h0
theorem spec_l15Without_ev (l : List S86) (cut : List Int) (hb : l.length ≤ 1000000000) (hc : cut.length ≤ 1000000000) : Ev (fun k => spec_l15Without.f k l cut) (dropFrom cut 0 l) := by
  simpa [spec_l15Without.f] using spec_l15Without_loop cut hc l [] [] hb (by simp)

theorem placesB_open {m : Int} : ∀ (h : List (Int × Int × List Int)) (o : Option Int), placesB m o h = true → (∀ y, o = some y → ∀ x ∈ h, y < x.1) ∧ (h.map fun x => x.1).Pairwise (fun a b => a < b) ∧ ∀ x ∈ h, 1 ≤ x.1 ∧ x.1 ≤ 99 ∧ 0 ≤ x.2.1 ∧ x.2.1 ≤ m
  | [], _, _ => by simp
  | x :: t, o, h => by
    simp only [placesB_cons, Bool.and_eq_true, inB_iff] at h
    obtain ⟨⟨⟨h1, h2, h3⟩, h4⟩, h5⟩ := h
    obtain ⟨i1, i2, i3⟩ := placesB_open t (some x.1) h5
    have i4 := i1 x.1 rfl
    refine ⟨fun y hy z hz => ?_, ?_, fun z hz => ?_⟩
    · subst hy
      have h6 : y < x.1 := by simpa using h4
      rcases List.mem_cons.1 hz with rfl | hz
      · exact h6
      · have := i4 z hz; omega
    · rw [List.map_cons]
      refine List.pairwise_cons.2 ⟨fun a ha => ?_, i2⟩
      obtain ⟨z, hz, rfl⟩ := List.mem_map.1 ha
      exact i4 z hz
    · rcases List.mem_cons.1 hz with rfl | hz
      · omega
      · exact i3 z hz
theorem dropFrom_sublist {α : Type} (cut : List Int) : ∀ (l : List α) (i : Nat), (dropFrom cut i l).Sublist l
  | [], _ => by simp [dropFrom]
  | x :: t, i => by
    unfold dropFrom
    split
    · exact (dropFrom_sublist cut t (i + 1)).cons x
    · exact (dropFrom_sublist cut t (i + 1)).cons_cons x
/-- What a good campus is made of. -/
theorem goodC_open {n : Int} {l : List S86} {d : List Int} {h : List S130} (hg : goodC n (l.map trip) d (h.map pl3) = true) :
    ∃ m : Nat, n = (m : Int) ∧ 1 ≤ m ∧ m ≤ 12 ∧ In3 m ((dropFrom d 0 l).map trip) ∧ Once ((dropFrom d 0 l).map trip) ∧ (dropFrom d 0 l).length ≤ 40 ∧ h.length ≤ 12 ∧ (∀ p ∈ h, 1 ≤ p.f0 ∧ p.f0 ≤ 99 ∧ 0 ≤ p.f1 ∧ p.f1 < (m : Int)) ∧ (h.map fun p => p.f0).Pairwise (fun a b => a < b) := by
  simp only [goodC, Bool.and_eq_true, decide_eq_true_eq] at hg
  obtain ⟨h1, h2, _, h3⟩ := hg
  obtain ⟨m, rfl, m1, m2, m3, m4⟩ := goodE_open h2
  obtain ⟨_, i2, i3⟩ := placesB_open _ none h1
  rw [w64 (n := (m : Int) - 1) (by omega) (by omega)] at i3
  refine ⟨m, rfl, m1, m2, fun e he => ?_, ?_, ?_, by simpa using h3, fun p hp => ?_, ?_⟩
  · obtain ⟨x, hx, rfl⟩ := List.mem_map.1 he
    exact m3 (trip x) (List.mem_map_of_mem (dropFrom_sub d l 0 x hx))
  · have := goodE_nodup h2
    exact List.Sublist.nodup (((dropFrom_sublist d l 0).map trip).map _) this
  · have := dropFrom_length d l 0
    simp only [List.length_map] at m4
    omega
  · have := i3 (pl3 p) (List.mem_map_of_mem hp)
    simp only [pl3] at this
    omega
  · rw [List.map_map] at i2
    exact i2
theorem spec_l17Up_ev (n : Int) (l : List S86) (d : List Int) (h : List S130) (hl : l.length ≤ 1000000000) (hd : d.length ≤ 1000000000) : Ev (fun k => spec_l17Up.f k n l d h) (dropFrom d 0 l) := by
  unfold spec_l17Up.f
  simp only [ev_bind (spec_l15Without_ev l d hl hd), ev_some]


theorem laws_toEdgeS_loop (t : List S105) : ∀ (p : List S105), (p ++ t).length ≤ 9223372036854775806 → Ev (fun k => laws_toEdgeS.l0 k (p ++ t) (p.map toE ++ List.replicate t.length z86) (p.length : Int)) ((p ++ t).map toE) := by
  induction t with
  | nil =>
    intro p _
    refine ev_succ.1 ?_
    simp only [laws_toEdgeS.l0, c_end, Int.lt_irrefl, if_false, ev_some, List.length_nil, List.replicate_zero, List.append_nil]
  | cons x t ih =>
    intro p hb
    refine ev_succ.1 ?_
    have e : p.map toE ++ List.replicate (x :: t).length z86 = p.map toE ++ z86 :: List.replicate t.length z86 := rfl
    have e2 : (p.length : Int) = ((p.map toE).length : Int) := by simp
    have e3 : (p.length : Int) < ((p.map toE ++ z86 :: List.replicate t.length z86).length : Int) := by simp; omega
    have e4 : ∀ y, (p.map toE ++ z86 :: List.replicate t.length z86).set ((p.length : Int)).toNat y = (p.map toE ++ [y]) ++ List.replicate t.length z86 := by intro y; rw [e2]; exact c_set _ _ _ _
    simp only [laws_toEdgeS.l0, laws_toEdge.f, e, e3, e4, c_lt, c_nn, rdLE_at, c_next _ _ _ hb, if_true, Option.bind_some]
    have := ih (p ++ [x]) (by rwa [← c_app])
    rw [← c_app, List.map_append] at this
    exact this
theorem laws_toEdgeS_ev (l : List S105) (h : l.length ≤ 11728124029610) : Ev (fun k => laws_toEdgeS.f k l) (l.map toE) := by
  unfold laws_toEdgeS.f
  simp only [Int.toNat_natCast, h, c_nn, if_true]
  exact laws_toEdgeS_loop l [] (by simp; omega)

theorem laws_toIntS_loop (t : List Int) : ∀ p : List Int, (p ++ t).length ≤ 9223372036854775806 → Ev (fun k => laws_toIntS.l0 k (p ++ t) (p ++ List.replicate t.length 0) (p.length : Int)) (p ++ t) := by
  induction t with
  | nil =>
    intro p _
    refine ev_succ.1 ?_
    simp only [laws_toIntS.l0, c_end, Int.lt_irrefl, if_false, ev_some, List.length_nil, List.replicate_zero]
  | cons x t ih =>
    intro p hb
    refine ev_succ.1 ?_
    have e : p ++ List.replicate (x :: t).length 0 = p ++ 0 :: List.replicate t.length 0 := rfl
    simp only [laws_toIntS.l0, e, c_lt, c_nn, c_rd, c_set, c_next _ _ _ hb, if_true]
    rw [c_app p x t]
    exact ih (p ++ [x]) (by rwa [← c_app])
theorem laws_toIntS_ev (l : List Int) (h : l.length ≤ 35184372088832) : Ev (fun k => laws_toIntS.f k l) l := by
  unfold laws_toIntS.f
  simp only [Int.toNat_natCast, h, c_nn, if_true]
  exact laws_toIntS_loop l [] (by simp; omega)

theorem laws_toPlace_ev (x y : Int) (l : List Int) (h : l.length ≤ 35184372088832) : Ev (fun k => laws_toPlace.f k x y l) (x, y, l) := by
  unfold laws_toPlace.f
  simp only [ev_bind (laws_toIntS_ev l h), ev_some]

theorem laws_toPlaceS_loop (t : List S129) : ∀ (p : List S129), (p ++ t).length ≤ 9223372036854775806 → (∀ x ∈ t, x.f2.length ≤ 1048576) → Ev (fun k => laws_toPlaceS.l0 k (p ++ t) (p.map toPl ++ List.replicate t.length z130) (p.length : Int)) ((p ++ t).map toPl) := by
  induction t with
  | nil =>
    intro p _ _
    refine ev_succ.1 ?_
    simp only [laws_toPlaceS.l0, c_end, Int.lt_irrefl, if_false, ev_some, List.length_nil, List.replicate_zero, List.append_nil]
  | cons x t ih =>
    intro p hb hx
    refine ev_succ.1 ?_
    have e : p.map toPl ++ List.replicate (x :: t).length z130 = p.map toPl ++ z130 :: List.replicate t.length z130 := rfl
    have e2 : (p.length : Int) = ((p.map toPl).length : Int) := by simp
    have e3 : (p.length : Int) < ((p.map toPl ++ z130 :: List.replicate t.length z130).length : Int) := by simp; omega
    have e4 : ∀ y, (p.map toPl ++ z130 :: List.replicate t.length z130).set ((p.length : Int)).toNat y = (p.map toPl ++ [y]) ++ List.replicate t.length z130 := by intro y; rw [e2]; exact c_set _ _ _ _
    simp only [laws_toPlaceS.l0, e, c_lt, c_nn, rdLPlace_at, c_next p x t hb, if_true, ev_bind (laws_toPlace_ev x.f0 x.f1 x.f2 (by have := hx x (by simp); omega)), e3, e4]
    have := ih (p ++ [x]) (by rwa [← c_app]) (fun y hy => hx y (by simp [hy]))
    rw [← c_app, List.map_append] at this
    exact this
theorem laws_toPlaceS_ev (l : List S129) (h : lplSize l ≤ 1048576) : Ev (fun k => laws_toPlaceS.f k l) (l.map toPl) := by
  have h1 := lplSize_len l
  have h2 := plSize_mem (l.map toPl) 1048576 (by rw [lplSize_map]; exact h)
  unfold laws_toPlaceS.f
  simp only [Int.toNat_natCast, show (l.length ≤ 7036874417766) = True from eq_true (by omega), c_nn, if_true]
  exact laws_toPlaceS_loop l [] (by simp; omega) (fun x hx => h2.2 (toPl x) (List.mem_map_of_mem hx))

end Go.Proofs.Ytpohlcjkabojcaa.Pure
