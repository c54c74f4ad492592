/- What functions of the program answer, as plain functions: used by the laws of this claim. -/
import Derived.Test.YtnoklicihomfoaaB0
import Derived.Test.YtnoklicihomfoaaF40
import Derived.Test.YtnoklicihomfoaaB1
import Derived.Test.YtnoklicihomfoaaB5
import Derived.Test.YtnoklicihomfoaaB39
namespace Go.Proofs.Ytnoklicihomfoaa.Pure
open Go.RowKit Go.Proofs.Ytnoklicihomfoaa.P Go.Proofs.YtnoklicihomfoaaW.PrintWords Go.Proofs.Ytnoklicihomfoaa.Q
set_option linter.unusedVariables false
set_option linter.unusedSimpArgs false

theorem spec_GoodCampus_loop (n : Int) (l : List S84) (d : List Int) (hl : l.length ≤ 1000000000) (hd : d.length ≤ 1000000000) (t : List S118) : ∀ p : List S118, (p ++ t).length ≤ 1000000000 → (∀ x ∈ t, x.f2.length ≤ 1000000000) → Ev (fun k => spec_GoodCampus.l0 k (p ++ t) ((p ++ t).length : Int) (p.length : Int) n l d (p ++ t)) (placesB (wrap64 (n - 1)) (p.getLast?.map fun q => q.f0) (t.map pl3) && (goodE n (l.map trip) && ((allB 0 ((l.length : Int) - 1) d && chainB none d) && decide ((p ++ t).length ≤ 12)))) := by
  induction t with
  | nil =>
    intro p hb _
    refine ev_succ.1 ?_
    simp only [spec_GoodCampus.l0, c_end, Int.lt_irrefl, if_false, ev_bind (spec_GoodEdges_ev n l (by omega)), w64 (n := (l.length : Int) - 1) (by omega) (by omega), ev_bind (spec_l1Rising_ev 0 ((l.length : Int) - 1) d (by omega)), ev_ite, ev_some]
    have e : (decide (((p ++ []).length : Int) ≤ 12)) = decide ((p ++ []).length ≤ 12) := decide_eq_decide.2 (by omega)
    rw [e]
    simp only [List.map_nil, placesB_nil, Bool.true_and]
    cases goodE n (l.map trip) <;> cases allB 0 ((l.length : Int) - 1) d <;> cases chainB none d <;> simp
  | cons x t ih =>
    intro p hb hx
    refine ev_succ.1 ?_
    have hn := ih (p ++ [x]) (by rwa [← c_app]) (fun y hy => hx y (by simp [hy]))
    rw [← c_app] at hn
    simp only [List.getLast?_append, List.getLast?_singleton, Option.some_or, Option.map_some] at hn
    simp only [spec_GoodCampus.l0, c_lt, c_nn, rdPlace_at, c_next p x t (by omega), if_true, ev_bind (spec_l17Place_ev n l d (p ++ x :: t) x.f0 x.f1 x.f2 (by have := hx x (by simp); omega)), ev_ite, ev_some, List.map_cons, placesB_cons, pl3]
    cases h1 : (inB 1 99 x.f0 && (inB 0 (wrap64 (n - 1)) x.f1 && (allB 1 20 x.f2 && chainB none x.f2)))
    · simp
    · simp only [if_true, Bool.true_and]
      rcases List.eq_nil_or_concat p with rfl | ⟨q, y, rfl⟩
      · simpa using hn
      · simp only [List.concat_eq_append] at *
        have e1 : wrap64 (((q ++ [y]).length : Int) - 1) = (q.length : Int) := by
          simp only [List.length_append, List.length_cons, List.length_nil] at hb ⊢
          unfold wrap64; omega
        have e2 : rd_T118 (q ++ [y] ++ x :: t) (q.length : Int) = y := by rw [← c_app]; exact rdPlace_at _ _ _
        have e3 : ((q.length : Int) < ((q ++ [y] ++ x :: t).length : Int)) = True := by rw [← c_app]; exact c_lt _ _ _
        have e4 : (((q ++ [y]).length : Int) > 0) = True := eq_true (by simp)
        simp only [e1, e2, e3, e4, c_nn, if_true, ev_some, List.getLast?_append, List.getLast?_singleton, Option.some_or, Option.map_some]
        by_cases h3 : y.f0 ≥ x.f0
        · simp [h3, ev_some, show ¬ y.f0 < x.f0 by omega]
        · simp only [h3, if_false]
          simpa [show y.f0 < x.f0 by omega] using hn
theorem spec_GoodCampus_ev (n : Int) (l : List S84) (d : List Int) (h : List S118) (hl : l.length ≤ 1000000000) (hd : d.length ≤ 1000000000) (hh : plSize h ≤ 1000000000) : Ev (fun k => spec_GoodCampus.f k n l d h) (goodC n (l.map trip) d (h.map pl3)) := by
  have h2 := plSize_mem h _ hh
  unfold spec_GoodCampus.f goodC
  have := spec_GoodCampus_loop n l d hl hd h [] (by simpa using h2.1) h2.2
  simp only [List.nil_append, List.length_nil, List.getLast?_nil, Option.map_none, List.length_map] at this ⊢
  exact this

theorem laws_toPlace_ev (x y : Int) (l : List Int) (h : l.length ≤ 35184372088832) : Ev (fun k => laws_toPlace.f k x y l) (x, y, l) := by
  unfold laws_toPlace.f
  simp only [ev_bind (laws_toIntS_ev l h), ev_some]

theorem laws_toPlaceS_loop (t : List S141) : ∀ (p : List S141), (p ++ t).length ≤ 9223372036854775806 → (∀ x ∈ t, x.f2.length ≤ 1048576) → Ev (fun k => laws_toPlaceS.l0 k (p ++ t) (p.map toPl ++ List.replicate t.length z118) (p.length : Int)) ((p ++ t).map toPl) := by
  induction t with
  | nil =>
    intro p _ _
    refine ev_succ.1 ?_
    simp only [laws_toPlaceS.l0, c_end, Int.lt_irrefl, if_false, ev_some, List.length_nil, List.replicate_zero, List.append_nil]
  | cons x t ih =>
    intro p hb hx
    refine ev_succ.1 ?_
    have e : p.map toPl ++ List.replicate (x :: t).length z118 = p.map toPl ++ z118 :: List.replicate t.length z118 := rfl
    have e2 : (p.length : Int) = ((p.map toPl).length : Int) := by simp
    have e3 : (p.length : Int) < ((p.map toPl ++ z118 :: List.replicate t.length z118).length : Int) := by simp; omega
    have e4 : ∀ y, (p.map toPl ++ z118 :: List.replicate t.length z118).set ((p.length : Int)).toNat y = (p.map toPl ++ [y]) ++ List.replicate t.length z118 := by intro y; rw [e2]; exact c_set _ _ _ _
    simp only [laws_toPlaceS.l0, e, c_lt, c_nn, rdLPlace_at, c_next p x t hb, if_true, ev_bind (laws_toPlace_ev x.f0 x.f1 x.f2 (by have := hx x (by simp); omega)), e3, e4]
    have := ih (p ++ [x]) (by rwa [← c_app]) (fun y hy => hx y (by simp [hy]))
    rw [← c_app, List.map_append] at this
    exact this
theorem laws_toPlaceS_ev (l : List S141) (h : lplSize l ≤ 1048576) : Ev (fun k => laws_toPlaceS.f k l) (l.map toPl) := by
  have h1 := lplSize_len l
  have h2 := plSize_mem (l.map toPl) 1048576 (by rw [lplSize_map]; exact h)
  unfold laws_toPlaceS.f
  simp only [Int.toNat_natCast, show (l.length ≤ 7036874417766) = True from eq_true (by omega), c_nn, if_true]
  exact laws_toPlaceS_loop l [] (by simp; omega) (fun x hx => h2.2 (toPl x) (List.mem_map_of_mem hx))

end Go.Proofs.Ytnoklicihomfoaa.Pure
