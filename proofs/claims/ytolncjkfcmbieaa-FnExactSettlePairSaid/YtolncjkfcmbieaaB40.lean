/- What functions of the program answer, as plain functions: used by the laws of this claim. -/
import Derived.Test.YtolncjkfcmbieaaB0
import Derived.Test.YtolncjkfcmbieaaF40
import Derived.Test.YtolncjkfcmbieaaB9
import Derived.Test.YtolncjkfcmbieaaB33
import Derived.Test.YtolncjkfcmbieaaB39
import Derived.Test.YtolncjkfcmbieaaQTree
namespace Go.Proofs.Ytolncjkfcmbieaa.Pure
open Go.RowKit Go.Proofs.Ytolncjkfcmbieaa.P Go.Proofs.YtolncjkfcmbieaaW.PrintWords Go.Proofs.Ytolncjkfcmbieaa.Q
set_option linter.unusedVariables false
set_option linter.unusedSimpArgs false

theorem laws_szHelloS_eq (l : List S188) (a : Int) (h : l.length ≤ maxLen) (h0 : 0 ≤ a) (h1 : a ≤ 1048576) : laws_szHelloS.f l a = some (if (l.length : Int) > a then -1 else a - (l.length : Int)) := by
  unfold laws_szHelloS.f
  unfold maxLen at h
  rw [w64 (by omega) (by omega)]
  split <;> split <;> first | rfl | omega

def pairSize (a b c : Nat) : Nat := a + b + c
theorem laws_szPair_eq (l0 l1 : List Int) (l2 : List S188) (h0 : l0.length ≤ maxLen) (h1 : l1.length ≤ maxLen) (h2 : l2.length ≤ maxLen) : ∃ r, laws_szPair.f l0 l1 l2 1048576 = some r ∧ (r < 0 ∨ (l0.length ≤ 1048576 ∧ l1.length ≤ 1048576 ∧ l2.length ≤ 1048576)) := by
  unfold laws_szPair.f
  simp only [laws_szIntS_eq l0 1048576 h0 (by omega) (by omega), Option.bind_some]
  by_cases g0 : (l0.length : Int) > 1048576
  · exact ⟨-1, by simp [g0], Or.inl (by omega)⟩
  simp only [g0, if_false, show ((1048576 : Int) - (l0.length : Int) < 0) = False from eq_false (by omega), laws_szIntS_eq l1 (1048576 - (l0.length : Int)) h1 (by omega) (by omega), Option.bind_some]
  by_cases g1 : (l1.length : Int) > 1048576 - (l0.length : Int)
  · exact ⟨-1, by simp [g1], Or.inl (by omega)⟩
  simp only [g1, if_false, show ((1048576 : Int) - (l0.length : Int) - (l1.length : Int) < 0) = False from eq_false (by omega), laws_szHelloS_eq l2 (1048576 - (l0.length : Int) - (l1.length : Int)) h2 (by omega) (by omega), Option.bind_some]
  by_cases g2 : (l2.length : Int) > 1048576 - (l0.length : Int) - (l1.length : Int)
  · exact ⟨-1, by simp [g2], Or.inl (by omega)⟩
  refine ⟨1048576 - (l0.length : Int) - (l1.length : Int) - (l2.length : Int), ?_, Or.inr (by omega)⟩
  rw [if_neg g2, if_neg (by omega)]

theorem spec_GoodPair_l1 (t : List S127) : ∀ p : List S127, (p ++ t).length ≤ 9223372036854775806 → Ev (fun k => spec_GoodPair.l1 k (p ++ t) ((p ++ t).length : Int) (p.length : Int)) (t.all (fun x => inB 0 1 x.f0)) := by
  induction t with
  | nil =>
    intro p _
    refine ev_succ.1 ?_
    simp only [spec_GoodPair.l1, c_end, Int.lt_irrefl, if_false, ev_some, List.all_nil]
  | cons x t ih =>
    intro p hb
    refine ev_succ.1 ?_
    have hn := ih (p ++ [x]) (by rwa [← c_app])
    simp only [spec_GoodPair.l1, c_lt, c_nn, rdHello_at, c_next _ _ _ hb, if_true, spec_l3Side_eq, Option.bind_some, ev_ite, ev_some, List.all_cons]
    rw [← c_app] at hn
    cases h1 : inB 0 1 x.f0
    · simp
    · simpa using hn
theorem spec_GoodPair_l0 (a b c d : Int) (ln : List S127) (h : ln.length ≤ 9223372036854775806) : Ev (fun k => spec_GoodPair.l0 k [a, b] 2 0 [a, b] [c, d] ln) (inB 0 2 a && inB 0 3 c && ((c == 0) == (a == 0)) && (inB 0 2 b && inB 0 3 d && ((d == 0) == (b == 0)) && ln.all (fun x => inB 0 1 x.f0))) := by
  have l2 : ∀ x y : Int, (([x, y] : List Int).length : Int) = 2 := fun _ _ => rfl
  have h2 : Ev (fun k => spec_GoodPair.l0 k [a, b] 2 2 [a, b] [c, d] ln) (ln.all (fun x => inB 0 1 x.f0)) := by
    refine ev_succ.1 ?_
    simp only [spec_GoodPair.l0, Int.lt_irrefl, if_false]
    exact spec_GoodPair_l1 ln [] h
  have h1 : Ev (fun k => spec_GoodPair.l0 k [a, b] 2 1 [a, b] [c, d] ln) (inB 0 2 b && inB 0 3 d && ((d == 0) == (b == 0)) && ln.all (fun x => inB 0 1 x.f0)) := by
    refine ev_succ.1 ?_
    simp only [spec_GoodPair.l0, l2, show ((1 : Int) < 2) = True from eq_true (by decide), show ((0 : Int) ≤ 1) = True from eq_true (by decide), show rd [a, b] 1 = b from rfl, show rd [c, d] 1 = d from rfl, show wrap64 (1 + 1) = 2 from (by unfold wrap64; omega), if_true, spec_l1In_eq, Option.bind_some, ev_ite, ev_some]
    generalize (d == 0) = p
    generalize (b == 0) = q
    cases inB 0 2 b <;> cases inB 0 3 d <;> cases p <;> cases q <;> simp <;> exact h2
  refine ev_succ.1 ?_
  simp only [spec_GoodPair.l0, l2, show ((0 : Int) < 2) = True from eq_true (by decide), show ((0 : Int) ≤ 0) = True from eq_true (by decide), show rd [a, b] 0 = a from rfl, show rd [c, d] 0 = c from rfl, show wrap64 (0 + 1) = 1 from (by unfold wrap64; omega), if_true, spec_l1In_eq, Option.bind_some, ev_ite, ev_some]
  generalize (c == 0) = p
  generalize (a == 0) = q
  cases inB 0 2 a <;> cases inB 0 3 c <;> cases p <;> cases q <;> simp <;> exact h1
theorem spec_GoodPair_ev (st lf : List Int) (ln : List S127) (h : ln.length ≤ 9223372036854775806) : Ev (fun k => spec_GoodPair.f k st lf ln) (goodP st lf ln) := by
  unfold spec_GoodPair.f
  have no : goodP st lf ln = false → Ev (fun k => spec_GoodPair.j0 k true st lf ln) (goodP st lf ln) := by
    intro g
    refine ev_succ.1 ?_
    simp only [spec_GoodPair.j0, if_true, ev_some]
    exact g.symm
  by_cases h1 : (st.length : Int) = 2
  · by_cases h2 : (lf.length : Int) = 2
    · obtain ⟨a, b, rfl⟩ := two_of_len h1
      obtain ⟨c, d, rfl⟩ := two_of_len h2
      simp only [h1, h2, if_true]
      refine ev_succ.1 ?_
      simp only [spec_GoodPair.j0, ev_ite, ev_some, decide_eq_true_eq]
      by_cases h3 : (ln.length : Int) > 12
      · rw [if_pos h3]
        simp [goodP, show ¬ (ln.length ≤ 12) by omega]
      · rw [if_neg h3]
        have := spec_GoodPair_l0 a b c d ln h
        simp only [goodP, show (ln.length ≤ 12) = True from eq_true (by omega), decide_true, Bool.true_and]
        exact this
    · simp only [h1, h2, if_true, if_false]; exact no (goodP_one (fun hh => by first | exact h1 hh.1 | exact h2 hh.2))
  · simp only [h1, if_false]; exact no (goodP_one (fun hh => by first | exact h1 hh.1 | exact h2 hh.2))


theorem laws_toHelloS_loop (t : List S188) : ∀ (p : List S188), (p ++ t).length ≤ 9223372036854775806 → Ev (fun k => laws_toHelloS.l0 k (p ++ t) (p.map toHello ++ List.replicate t.length z127) (p.length : Int)) ((p ++ t).map toHello) := by
  induction t with
  | nil =>
    intro p _
    refine ev_succ.1 ?_
    simp only [laws_toHelloS.l0, c_end, Int.lt_irrefl, if_false, ev_some, List.length_nil, List.replicate_zero, List.append_nil]
  | cons x t ih =>
    intro p hb
    refine ev_succ.1 ?_
    have e : p.map toHello ++ List.replicate (x :: t).length z127 = p.map toHello ++ z127 :: List.replicate t.length z127 := rfl
    have e2 : (p.length : Int) = ((p.map toHello).length : Int) := by simp
    have e3 : (p.length : Int) < ((p.map toHello ++ z127 :: List.replicate t.length z127).length : Int) := by simp; omega
    have e4 : ∀ y, (p.map toHello ++ z127 :: List.replicate t.length z127).set ((p.length : Int)).toNat y = (p.map toHello ++ [y]) ++ List.replicate t.length z127 := by intro y; rw [e2]; exact c_set _ _ _ _
    simp only [laws_toHelloS.l0, laws_toHello.f, e, e3, e4, c_lt, c_nn, rdLHello_at, c_next _ _ _ hb, if_true, Option.bind_some]
    have := ih (p ++ [x]) (by rwa [← c_app])
    rw [← c_app, List.map_append] at this
    exact this
theorem laws_toHelloS_ev (l : List S188) (h : l.length ≤ 17592186044416) : Ev (fun k => laws_toHelloS.f k l) (l.map toHello) := by
  unfold laws_toHelloS.f
  simp only [Int.toNat_natCast, h, c_nn, if_true]
  exact laws_toHelloS_loop l [] (by simp; omega)

theorem laws_toPair_ev (l0 l1 : List Int) (l2 : List S188) (h0 : l0.length ≤ 1048576) (h1 : l1.length ≤ 1048576) (h2 : l2.length ≤ 1048576) : Ev (fun k => laws_toPair.f k l0 l1 l2) (l0, l1, l2.map toHello) := by
  unfold laws_toPair.f
  simp only [ev_bind (laws_toIntS_ev l0 (by omega)), ev_bind (laws_toIntS_ev l1 (by omega)), ev_bind (laws_toHelloS_ev l2 (by omega)), ev_some]

end Go.Proofs.Ytolncjkfcmbieaa.Pure
