/- What functions of the program answer, as plain functions: used by the laws of this claim. -/
import Derived.Test.YtnoklicihomfoaaB0
import Derived.Test.YtnoklicihomfoaaF32
import Derived.Test.YtnoklicihomfoaaB4
import Derived.Test.YtnoklicihomfoaaB30
import Derived.Test.YtnoklicihomfoaaB31
namespace Go.Proofs.Ytnoklicihomfoaa.Pure
open Go.RowKit Go.Proofs.Ytnoklicihomfoaa.P Go.Proofs.YtnoklicihomfoaaW.PrintWords Go.Proofs.Ytnoklicihomfoaa.Q
set_option linter.unusedVariables false
set_option linter.unusedSimpArgs false

theorem spec_AskFor_ev (l : List S104) (lo hi : Int) (s : List S104) (hl : l.length ≤ 1000000000) (hs : s.length ≤ 1000000000) : Ev (fun k => spec_AskFor.f k l lo hi s) (if goodH (l.map hpr) && goodS lo hi (s.map hpr) then ((s.filter (fun x => decide (x.f1 > seqV (l.map hpr) x.f0))).map (fun x => x.f0), l.filter (fun x => inB lo hi x.f0 && decide (x.f1 > seqV (s.map hpr) x.f0)), true) else ([], [], false)) := by
  unfold spec_AskFor.f
  simp only [ev_bind (spec_GoodHaves_ev l (by omega)), ev_bind (spec_GoodSummary_ev lo hi s (by omega)), ev_bind (spec_l7Ask_ev l lo hi s hl hs), ev_ite, ev_some]
  cases goodH (l.map hpr) <;> cases goodS lo hi (s.map hpr) <;> rfl


theorem laws_toHaveS_loop (t : List S106) : ∀ (p : List S106), (p ++ t).length ≤ 9223372036854775806 → Ev (fun k => laws_toHaveS.l0 k (p ++ t) (p.map toHave ++ List.replicate t.length z104) (p.length : Int)) ((p ++ t).map toHave) := by
  induction t with
  | nil =>
    intro p _
    refine ev_succ.1 ?_
    simp only [laws_toHaveS.l0, c_end, Int.lt_irrefl, if_false, ev_some, List.length_nil, List.replicate_zero, List.append_nil]
  | cons x t ih =>
    intro p hb
    refine ev_succ.1 ?_
    have e : p.map toHave ++ List.replicate (x :: t).length z104 = p.map toHave ++ z104 :: List.replicate t.length z104 := rfl
    have e2 : (p.length : Int) = ((p.map toHave).length : Int) := by simp
    have e3 : (p.length : Int) < ((p.map toHave ++ z104 :: List.replicate t.length z104).length : Int) := by simp; omega
    have e4 : ∀ y, (p.map toHave ++ z104 :: List.replicate t.length z104).set ((p.length : Int)).toNat y = (p.map toHave ++ [y]) ++ List.replicate t.length z104 := by intro y; rw [e2]; exact c_set _ _ _ _
    simp only [laws_toHaveS.l0, laws_toHave.f, e, e3, e4, c_lt, c_nn, rdLHave_at, c_next _ _ _ hb, if_true, Option.bind_some]
    have := ih (p ++ [x]) (by rwa [← c_app])
    rw [← c_app, List.map_append] at this
    exact this
theorem laws_toHaveS_ev (l : List S106) (h : l.length ≤ 17592186044416) : Ev (fun k => laws_toHaveS.f k l) (l.map toHave) := by
  unfold laws_toHaveS.f
  simp only [Int.toNat_natCast, h, c_nn, if_true]
  exact laws_toHaveS_loop l [] (by simp; omega)

theorem laws_toSummary_ev (lo hi : Int) (l : List S106) (h : l.length ≤ 17592186044416) : Ev (fun k => laws_toSummary.f k lo hi l) (lo, hi, l.map toHave) := by
  unfold laws_toSummary.f
  simp only [ev_bind (laws_toHaveS_ev l h), ev_some]

theorem impl_GoodHaves_loop (t : List S104) : ∀ p : List S104, (p ++ t).length ≤ 9223372036854775806 → Ev (fun k => impl_GoodHaves.l0 k (p ++ t) (p ++ t) ((p ++ t).length : Int) (p.length : Int)) (havesB (p.getLast?.map fun e => e.f0) (t.map hpr) && decide ((p ++ t).length ≤ 30)) := by
  induction t with
  | nil =>
    intro p _
    refine ev_succ.1 ?_
    simp only [impl_GoodHaves.l0, c_end, Int.lt_irrefl, if_false, ev_some]
    have e : (decide (((p ++ []).length : Int) ≤ 30)) = decide ((p ++ []).length ≤ 30) := decide_eq_decide.2 (by omega)
    rw [e]
    simp only [List.map_nil, havesB_nil, Bool.true_and]
  | cons x t ih =>
    intro p hb
    refine ev_succ.1 ?_
    have hn := ih (p ++ [x]) (by rwa [← c_app])
    rw [← c_app] at hn
    simp only [List.getLast?_append, List.getLast?_singleton, Option.some_or, Option.map_some] at hn
    simp only [impl_GoodHaves.l0, c_lt, c_nn, rdHave_at, c_next _ _ _ hb, if_true, impl_in_eq, Option.bind_some, ev_ite, List.map_cons, havesB_cons]
    cases h1 : inB 1 1000 x.f0
    · simp [ev_some, hpr, h1]
    cases h2 : inB 1 1000 x.f1
    · simp [ev_some, hpr, h1, h2]
    rcases List.eq_nil_or_concat p with rfl | ⟨q, y, rfl⟩
    · simpa [hpr, h1, h2] using hn
    · simp only [List.concat_eq_append] at *
      have e1 : wrap64 (((q ++ [y]).length : Int) - 1) = (q.length : Int) := by
        simp only [List.length_append, List.length_cons, List.length_nil] at hb ⊢
        unfold wrap64; omega
      have e2 : rd_T104 (q ++ [y] ++ x :: t) (q.length : Int) = y := by rw [← c_app]; exact rdHave_at _ _ _
      have e3 : ((q.length : Int) < ((q ++ [y] ++ x :: t).length : Int)) = True := by rw [← c_app]; exact c_lt _ _ _
      have e4 : (((q ++ [y]).length : Int) > 0) = True := eq_true (by simp)
      simp only [e1, e2, e3, e4, c_nn, if_true, ev_some, List.getLast?_append, List.getLast?_singleton, Option.some_or, Option.map_some]
      by_cases h3 : y.f0 ≥ x.f0
      · simp [h3, hpr, ev_some, show ¬ y.f0 < x.f0 by omega]
      · simp only [h3, if_false]
        simpa [hpr, h1, h2, show y.f0 < x.f0 by omega] using hn
theorem impl_GoodHaves_ev (l : List S104) (h : l.length ≤ 9223372036854775806) : Ev (fun k => impl_GoodHaves.f k l) (goodH (l.map hpr)) := by
  unfold goodH impl_GoodHaves.f
  simpa using impl_GoodHaves_loop l [] h

end Go.Proofs.Ytnoklicihomfoaa.Pure
