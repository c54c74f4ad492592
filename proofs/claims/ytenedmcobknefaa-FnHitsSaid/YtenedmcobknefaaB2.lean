/- What functions of the program answer, as plain functions: used by the laws of this claim. -/
import Derived.Test.YtenedmcobknefaaB0
import Derived.Test.YtenedmcobknefaaF2
import Derived.Test.YtenedmcobknefaaB1
namespace Go.Proofs.Ytenedmcobknefaa.Pure
open Go.RowKit Go.Proofs.Ytenedmcobknefaa.P Go.Proofs.YtenedmcobknefaaW.PrintWords Go.Proofs.Ytenedmcobknefaa.Q
set_option linter.unusedVariables false
set_option linter.unusedSimpArgs false

theorem spec_l13Heard_loop (room : Int) (t : List S27) : ∀ p : List S27, (p ++ t).length ≤ 1000000 → ∃ b, Ev (fun k => spec_l13Heard.l0 k room (p ++ t) (p ++ t) ((p ++ t).length : Int) (p.length : Int)) b := by
  induction t with
  | nil =>
    intro p _
    by_cases h : inB 1 8 room = true
    · refine ⟨decide ((p.length : Int) ≤ 60), ev_succ.1 ?_⟩
      simp only [spec_l13Heard.l0, c_end, List.append_nil, Int.lt_irrefl, if_false, spec_l1In_eq, Option.bind_some, if_pos h]
      exact Ev.now _
    · refine ⟨false, ev_succ.1 ?_⟩
      simp only [spec_l13Heard.l0, c_end, List.append_nil, Int.lt_irrefl, if_false, spec_l1In_eq, Option.bind_some, if_neg h]
      exact Ev.now _
  | cons y t ih =>
    intro p hb
    have hq : ((p ++ [y]) ++ t).length ≤ 1000000 := by rwa [← c_app]
    obtain ⟨b, hi⟩ := ih (p ++ [y]) hq
    rw [← c_app] at hi
    have hp : p.length ≤ 1000000 := by simp at hb; omega
    by_cases h : seen3 y.f0 y.f1 y.f2 = true
    · by_cases h0 : (p.length : Int) > 0
      · by_cases h1 : (rd_T27 (p ++ y :: t) (wrap64 ((p.length : Int) - 1))).f2 > y.f2
        · refine ⟨false, ev_succ.1 ?_⟩
          simp only [spec_l13Heard.l0, c_lt, c_nn, rdSeen_at, if_true, spec_l13Row_eq, Option.bind_some, h, if_pos h0, if_pos h1, show (0 ≤ wrap64 ((p.length : Int) - 1)) = True from eq_true (by rw [w64 (by omega) (by omega)]; omega), show (wrap64 ((p.length : Int) - 1) < ((p ++ y :: t).length : Int)) = True from eq_true (by rw [w64 (by omega) (by omega)]; simp; omega)]
          exact Ev.now _
        · refine ⟨b, ev_succ.1 ?_⟩
          simp only [spec_l13Heard.l0, c_lt, c_nn, rdSeen_at, if_true, spec_l13Row_eq, Option.bind_some, h, if_pos h0, if_neg h1, show (0 ≤ wrap64 ((p.length : Int) - 1)) = True from eq_true (by rw [w64 (by omega) (by omega)]; omega), show (wrap64 ((p.length : Int) - 1) < ((p ++ y :: t).length : Int)) = True from eq_true (by rw [w64 (by omega) (by omega)]; simp; omega), c_next p y t (by omega)]
          exact hi
      · refine ⟨b, ev_succ.1 ?_⟩
        simp only [spec_l13Heard.l0, c_lt, c_nn, rdSeen_at, if_true, spec_l13Row_eq, Option.bind_some, h, if_neg h0, c_next p y t (by omega)]
        exact hi
    · refine ⟨false, ev_succ.1 ?_⟩
      simp only [spec_l13Heard.l0, c_lt, c_nn, rdSeen_at, if_true, spec_l13Row_eq, Option.bind_some, if_neg h]
      exact Ev.now _
theorem spec_l13Heard_ok (room : Int) (l : List S27) (h : l.length ≤ 1000000) : ∃ b, Ev (fun k => spec_l13Heard.f k room l) b := by
  unfold spec_l13Heard.f
  exact spec_l13Heard_loop room l [] (by simpa using h)

theorem spec_PlayTable_loop (t : List S27) : ∀ (p : List S27) (rm : Int) (rows : List S27), (p ++ t).length ≤ 1000 → rows.length + t.length ≤ 1000 → ∃ r R, Ev (fun k => spec_PlayTable.l0 k (p ++ t) ((p ++ t).length : Int) (p.length : Int) rm rows) (r, R, true) ∧ R.length ≤ rows.length + t.length := by
  induction t with
  | nil =>
    intro p rm rows _ _
    refine ⟨rm, rows, ev_succ.1 ?_, by simp⟩
    simp only [spec_PlayTable.l0, c_end, List.append_nil, Int.lt_irrefl, if_false]
    exact Ev.now _
  | cons y t ih =>
    intro p rm rows hb hr
    have hq : ((p ++ [y]) ++ t).length ≤ 1000 := by rwa [← c_app]
    simp only [List.length_cons] at hr
    have hl := learnV_length rm rows y
    obtain ⟨r, R, hi, hR⟩ := ih (p ++ [y]) rm (learnV rm rows y) hq (by omega)
    rw [← c_app] at hi
    refine ⟨r, R, ev_succ.1 ?_, by simp only [List.length_cons]; omega⟩
    simp only [spec_PlayTable.l0, c_lt, c_nn, rdSeen_at, if_true, ev_bind (spec_l13Learn_ev rm rows y (by omega)), c_next p y t (by omega)]
    exact hi
theorem spec_PlayTable_ok (room : Int) (l : List S27) (h : l.length ≤ 1000) : ∃ r R b, Ev (fun k => spec_PlayTable.f k room l) (r, R, b) ∧ R.length ≤ l.length := by
  obtain ⟨b, hb⟩ := spec_l13Heard_ok room l (by omega)
  unfold spec_PlayTable.f
  simp only [ev_bind hb]
  by_cases h1 : b = true
  · obtain ⟨r, R, he, hR⟩ := spec_PlayTable_loop l [] room [] (by simpa using h) (by simpa using h)
    refine ⟨r, R, true, ?_, by simpa using hR⟩
    simp only [if_pos h1]
    exact he
  · refine ⟨0, [], false, ?_, by simp⟩
    simp only [if_neg h1]
    exact Ev.now _

theorem spec_l1Cur_among_ok (l : List Int) (at_ seed : Int) (m : List Int) (hl : bytesL l) (h0 : 0 ≤ at_) (h1 : at_ ≤ 100000000000) (hm : 1 ≤ m.length) (hm2 : m.length ≤ 1000000) : ∃ v a s, spec_l1Cur_among.f l at_ seed m = some (v, a, s) ∧ v ∈ m ∧ at_ ≤ a ∧ a ≤ at_ + 2 := by
  obtain ⟨v, a, s, e, b0, b1, a0, a1⟩ := spec_l1Cur_pick_ok l at_ seed (m.length : Int) hl h0 h1 (by omega)
  have hv : v < (m.length : Int) := by omega
  refine ⟨rd m v, a, s, ?_, ?_, a0, a1⟩
  · unfold spec_l1Cur_among.f
    simp only [e, Option.bind_some, if_pos b0, if_pos hv]
  · unfold rd
    rw [List.getD_eq_getElem?_getD, List.getElem?_eq_getElem (by omega)]
    exact List.getElem_mem _

theorem spec_l1Cur_one_ok (l : List Int) (at_ seed n : Int) (hl : bytesL l) (h0 : 0 ≤ at_) (h1 : at_ ≤ 100000000000) (hn : n ≤ 1000000000) : ∃ b a s, spec_l1Cur_one.f l at_ seed n = some (b, a, s) ∧ at_ ≤ a ∧ a ≤ at_ + 2 := by
  obtain ⟨v, a, s, e, _, _, a0, a1⟩ := spec_l1Cur_pick_ok l at_ seed n hl h0 h1 hn
  exact ⟨v == 0, a, s, by unfold spec_l1Cur_one.f; rw [e]; rfl, a0, a1⟩

end Go.Proofs.Ytenedmcobknefaa.Pure
