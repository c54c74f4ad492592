/- What functions of the program answer, as plain functions: used by the laws of this claim. -/
import Derived.Test.YtnoklicihomfoaaB0
import Derived.Test.YtnoklicihomfoaaF30
import Derived.Test.YtnoklicihomfoaaB4
namespace Go.Proofs.Ytnoklicihomfoaa.Pure
open Go.RowKit Go.Proofs.Ytnoklicihomfoaa.P Go.Proofs.YtnoklicihomfoaaW.PrintWords Go.Proofs.Ytnoklicihomfoaa.Q
set_option linter.unusedVariables false
set_option linter.unusedSimpArgs false

theorem laws_szHaveS_eq (l : List S106) (a : Int) (h : l.length ≤ maxLen) (h0 : 0 ≤ a) (h1 : a ≤ 1048576) : laws_szHaveS.f l a = some (if (l.length : Int) > a then -1 else a - (l.length : Int)) := by
  unfold laws_szHaveS.f
  unfold maxLen at h
  rw [w64 (by omega) (by omega)]
  split <;> split <;> first | rfl | omega

theorem laws_szSummary_eq (lo hi : Int) (l : List S106) (a : Int) (h : l.length ≤ maxLen) (h0 : 0 ≤ a) (h1 : a ≤ 1048576) : laws_szSummary.f lo hi l a = some (if (l.length : Int) > a then -1 else a - (l.length : Int)) := by
  unfold laws_szSummary.f
  rw [laws_szHaveS_eq l a h h0 h1]
  simp only [Option.bind_some]
  split <;> split <;> first | rfl | omega

theorem spec_GoodHaves_loop (t : List S104) : ∀ p : List S104, (p ++ t).length ≤ 9223372036854775806 → Ev (fun k => spec_GoodHaves.l0 k (p ++ t) (p ++ t) ((p ++ t).length : Int) (p.length : Int)) (havesB (p.getLast?.map fun e => e.f0) (t.map hpr) && decide ((p ++ t).length ≤ 30)) := by
  induction t with
  | nil =>
    intro p _
    refine ev_succ.1 ?_
    simp only [spec_GoodHaves.l0, c_end, Int.lt_irrefl, if_false, ev_some]
    have e : (decide (((p ++ []).length : Int) ≤ 30)) = decide ((p ++ []).length ≤ 30) := decide_eq_decide.2 (by omega)
    rw [e]
    simp only [List.map_nil, havesB_nil, Bool.true_and]
  | cons x t ih =>
    intro p hb
    refine ev_succ.1 ?_
    have hn := ih (p ++ [x]) (by rwa [← c_app])
    rw [← c_app] at hn
    simp only [List.getLast?_append, List.getLast?_singleton, Option.some_or, Option.map_some] at hn
    simp only [spec_GoodHaves.l0, c_lt, c_nn, rdHave_at, c_next _ _ _ hb, if_true, spec_l1In_eq, Option.bind_some, ev_ite, List.map_cons, havesB_cons]
    cases h1 : inB 1 1000 x.f0
    · simp [ev_some, hpr, h1]
    cases h2 : inB 1 1000 x.f1
    · simp [ev_some, hpr, h1, h2]
    rcases List.eq_nil_or_concat p with rfl | ⟨q, y, rfl⟩
    · simpa [hpr, h1, h2] using hn
    · simp only [List.concat_eq_append] at *
      have e1 : wrap64 (((q ++ [y]).length : Int) - 1) = (q.length : Int) := by
        simp only [List.length_append, List.length_cons, List.length_nil] at hb ⊢
        unfold wrap64; omega
      have e2 : rd_T104 (q ++ [y] ++ x :: t) (q.length : Int) = y := by rw [← c_app]; exact rdHave_at _ _ _
      have e3 : ((q.length : Int) < ((q ++ [y] ++ x :: t).length : Int)) = True := by rw [← c_app]; exact c_lt _ _ _
      have e4 : (((q ++ [y]).length : Int) > 0) = True := eq_true (by simp)
      simp only [e1, e2, e3, e4, c_nn, if_true, ev_some, List.getLast?_append, List.getLast?_singleton, Option.some_or, Option.map_some]
      by_cases h3 : y.f0 ≥ x.f0
      · simp [h3, hpr, ev_some, show ¬ y.f0 < x.f0 by omega]
      · simp only [h3, if_false]
        simpa [hpr, h1, h2, show y.f0 < x.f0 by omega] using hn
theorem spec_GoodHaves_ev (l : List S104) (h : l.length ≤ 9223372036854775806) : Ev (fun k => spec_GoodHaves.f k l) (goodH (l.map hpr)) := by
  unfold goodH spec_GoodHaves.f
  simpa using spec_GoodHaves_loop l [] h

theorem spec_GoodSummary_ev (lo hi : Int) (l : List S104) (h : l.length ≤ 9223372036854775806) : Ev (fun k => spec_GoodSummary.f k lo hi l) (goodS lo hi (l.map hpr)) := by
  have hl : ∀ (t p : List S104), p ++ t = l → Ev (fun k => spec_GoodSummary.l0 k l (l.length : Int) (p.length : Int) lo hi l) ((t.map hpr).all (fun x => inB lo hi x.1) && (goodH (l.map hpr) && (decide (1 ≤ lo) && (decide (lo ≤ hi) && decide (hi ≤ 1000))))) := by
    intro t
    induction t with
    | nil =>
      intro p e
      refine ev_succ.1 ?_
      have e1 : p = l := by rw [← e]; simp
      subst e1
      simp only [spec_GoodSummary.l0, Int.lt_irrefl, if_false, ev_bind (spec_GoodHaves_ev p h), ev_ite, ev_some]
      cases goodH (p.map hpr) <;> by_cases h1 : (1 : Int) ≤ lo <;> by_cases h2 : lo ≤ hi <;> simp [h1, h2, show (lo ≥ 1) ↔ (1 ≤ lo) from Iff.rfl]
    | cons x t ih =>
      intro p e
      refine ev_succ.1 ?_
      have hb2 : (p ++ x :: t).length ≤ 9223372036854775806 := by rw [e]; exact h
      have e1 : ((p.length : Int) < (l.length : Int)) = True := by rw [← e]; exact c_lt _ _ _
      have e2 : rd_T104 l (p.length : Int) = x := by rw [← e]; exact rdHave_at _ _ _
      simp only [spec_GoodSummary.l0, e1, e2, c_nn, if_true, spec_l1In_eq, Option.bind_some, c_next p x t hb2, ev_ite, ev_some]
      have := ih (p ++ [x]) (by rw [← e]; simp)
      cases h1 : inB lo hi x.f0
      · simp [hpr, h1]
      · simpa [hpr, h1] using this
  have := hl l [] rfl
  unfold spec_GoodSummary.f goodS
  simpa using this

theorem spec_l7Seq_loop (n : Int) (t : List S104) : ∀ p : List S104, (p ++ t).length ≤ 9223372036854775806 → Ev (fun k => spec_l7Seq.l0 k n (p ++ t) ((p ++ t).length : Int) (p.length : Int)) (seqV (t.map hpr) n) := by
  induction t with
  | nil =>
    intro p _
    refine ev_succ.1 ?_
    simp only [spec_l7Seq.l0, c_end, Int.lt_irrefl, if_false, ev_some]
    rfl
  | cons x t ih =>
    intro p hb
    refine ev_succ.1 ?_
    have hn := ih (p ++ [x]) (by rwa [← c_app])
    rw [← c_app] at hn
    simp only [spec_l7Seq.l0, c_lt, c_nn, rdHave_at, c_next p x t hb, if_true, ev_ite, ev_some, List.map_cons, seqV]
    by_cases h : x.f0 = n
    · simp [h, hpr]
    · simpa [h, hpr] using hn
theorem spec_l7Seq_ev (l : List S104) (n : Int) (h : l.length ≤ 9223372036854775806) : Ev (fun k => spec_l7Seq.f k l n) (seqV (l.map hpr) n) := spec_l7Seq_loop n l [] h

end Go.Proofs.Ytnoklicihomfoaa.Pure
