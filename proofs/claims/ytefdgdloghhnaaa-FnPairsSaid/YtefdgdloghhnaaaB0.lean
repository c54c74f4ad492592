/- Plain facts on the kinds of the program, used by the texts of this claim. -/
import Derived.Test.YtefdgdloghhnaaaF0
import Derived.Test.YtefdgdloghhnaaaQBase
import Derived.Test.YtefdgdloghhnaaaQFlow
import Derived.Test.YtefdgdloghhnaaaQForest
import Derived.Test.YtefdgdloghhnaaaQTree
namespace Go.Proofs.Ytefdgdloghhnaaa.Pure
open Go.RowKit Go.Proofs.Ytefdgdloghhnaaa.P Go.Proofs.YtefdgdloghhnaaaW.PrintWords Go.Proofs.Ytefdgdloghhnaaa.Q
set_option linter.unusedVariables false
set_option linter.unusedSimpArgs false

theorem rdPairStep_at (p : List S28) (x : S28) (t : List S28) : rd_T28 (p ++ x :: t) (p.length : Int) = x := by simp [rd_T28]
theorem etaPairStep (x : S28) : (⟨x.f0, x.f1⟩ : S28) = x := rfl
def marksPairStep : Nat → Int → List S28
  | 0, _ => []
  | n + 1, a => ⟨a, a + 1⟩ :: marksPairStep n (a + 2)
theorem marksPairStep_length (n : Nat) : ∀ a, (marksPairStep n a).length = n := by
  induction n with
  | zero => intro a; rfl
  | succ n ih => intro a; simp [marksPairStep, ih]

theorem rdHello_at (p : List S36) (x : S36) (t : List S36) : rd_T36 (p ++ x :: t) (p.length : Int) = x := by simp [rd_T36]
theorem etaHello (x : S36) : (⟨x.f0, x.f1⟩ : S36) = x := rfl
def marksHello : Nat → Int → List S36
  | 0, _ => []
  | n + 1, a => ⟨a, (Int.tmod (a + 1) 3) == 0⟩ :: marksHello n (a + 2)
theorem marksHello_length (n : Nat) : ∀ a, (marksHello n a).length = n := by
  induction n with
  | zero => intro a; rfl
  | succ n ih => intro a; simp [marksHello, ih]
/-- Neighbours: what is good of a pair, and a step. -/
def goodP (st lf : List Int) (ln : List S36) : Bool := match st, lf with
  | [a, b], [c, d] => decide (ln.length ≤ 12) && (inB 0 2 a && inB 0 3 c && ((c == 0) == (a == 0)) && (inB 0 2 b && inB 0 3 d && ((d == 0) == (b == 0)) && ln.all (fun x => inB 0 1 x.f0)))
  | _, _ => false
theorem two_of_len {l : List Int} (h : (l.length : Int) = 2) : ∃ a b, l = [a, b] := by
  match l with
  | [] => simp at h
  | [_] => simp at h
  | [a, b] => exact ⟨a, b, rfl⟩
  | _ :: _ :: _ :: t => simp only [List.length_cons] at h; omega
theorem goodP_two {st lf : List Int} {ln : List S36} (h : goodP st lf ln = true) : ∃ a b c d, st = [a, b] ∧ lf = [c, d] := by
  unfold goodP at h
  split at h
  · exact ⟨_, _, _, _, rfl, rfl⟩
  · cases h
theorem goodP_one {st lf : List Int} {ln : List S36} (h : ¬ ((st.length : Int) = 2 ∧ (lf.length : Int) = 2)) : goodP st lf ln = false := by
  cases g : goodP st lf ln
  · rfl
  · obtain ⟨a, b, c, d, rfl, rfl⟩ := goodP_two g
    exact absurd ⟨rfl, rfl⟩ h
def tick1 (a c : Int) : Int × Int := if a = 0 then (a, c) else if c - 1 = 0 then (0, c - 1) else (a, c - 1)
def nilP : List Int × List Int × List S36 × Bool := ([], [], [], false)
def stepP (a b c d : Int) (ln : List S36) (kind k : Int) : List Int × List Int × List S36 × Bool :=
  if kind = 1 then (if inB 0 1 k = true ∧ ln.length < 12 then ([a, b], [c, d], ln ++ [⟨k, (rd [a, b] k) != 0⟩], true) else nilP)
  else if kind = 2 ∨ kind = 3 then (if 0 ≤ k ∧ k < ln.length then (if kind = 2 then ([a, b].set (1 - (rd_T36 ln k).f0).toNat (if (rd_T36 ln k).f1 then 2 else 1), [c, d].set (1 - (rd_T36 ln k).f0).toNat 3, ln.take k.toNat ++ ln.drop (k + 1).toNat, true) else ([a, b], [c, d], ln.take k.toNat ++ ln.drop (k + 1).toNat, true)) else nilP)
  else if kind = 4 then (if k = 0 then ([(tick1 a c).1, (tick1 b d).1], [(tick1 a c).2, (tick1 b d).2], ln, true) else nilP)
  else nilP
def stepped (st lf : List Int) (ln : List S36) (kind k : Int) : List Int × List Int × List S36 × Bool :=
  if goodP st lf ln = true then (match st, lf with | [a, b], [c, d] => stepP a b c d ln kind k | _, _ => nilP) else nilP
theorem stepP_len (a b c d : Int) (ln : List S36) (kind k : Int) (h : ln.length ≤ 12) : (stepP a b c d ln kind k).1.length ≤ 2 ∧ (stepP a b c d ln kind k).2.1.length ≤ 2 ∧ (stepP a b c d ln kind k).2.2.1.length ≤ 12 := by
  unfold stepP nilP
  have e : (ln.take k.toNat ++ ln.drop (k + 1).toNat).length ≤ 12 ∨ ¬ (0 ≤ k) := by
    by_cases h0 : 0 ≤ k
    · left; rw [List.length_append, List.length_take, List.length_drop]; omega
    · exact Or.inr h0
  split
  · split
    · rename_i g; simp only [List.length_append, List.length_cons, List.length_nil]; omega
    · simp
  · split
    · split
      · rename_i g
        have e2 := e.resolve_right (by omega)
        split
        · simp only [List.length_set, List.length_cons, List.length_nil]; omega
        · simp only [List.length_cons, List.length_nil]; omega
      · simp
    · split
      · split
        · simp only [List.length_cons, List.length_nil]; omega
        · simp
      · simp
theorem goodP_ln {st lf : List Int} {ln : List S36} (h : goodP st lf ln = true) : ln.length ≤ 12 := by
  obtain ⟨a, b, c, d, rfl, rfl⟩ := goodP_two h
  simp [goodP] at h
  exact h.1
theorem stepped_len (st lf : List Int) (ln : List S36) (kind k : Int) : (stepped st lf ln kind k).1.length ≤ 2 ∧ (stepped st lf ln kind k).2.1.length ≤ 2 ∧ (stepped st lf ln kind k).2.2.1.length ≤ 12 := by
  unfold stepped
  split
  · rename_i g
    have h := goodP_ln g
    split
    · exact stepP_len _ _ _ _ ln kind k h
    · simp [nilP]
  · simp [nilP]
theorem good_step {a b c d : Int} {ln : List S36} {kind k : Int} (g : goodP [a, b] [c, d] ln = true) (h : (stepP a b c d ln kind k).2.2.2 = true) : goodP (stepP a b c d ln kind k).1 (stepP a b c d ln kind k).2.1 (stepP a b c d ln kind k).2.2.1 = true := by
  have g0 := g
  simp only [goodP, Bool.and_eq_true, decide_eq_true_eq] at g
  obtain ⟨gl, ⟨⟨ga, gc⟩, ge⟩, ⟨⟨gb, gd⟩, gf⟩, gall⟩ := g
  have hall : ∀ i : Nat, ((ln.take i ++ ln.drop (i + 1)).all (fun x => inB 0 1 x.f0)) = true := by
    intro i
    rw [List.all_append, Bool.and_eq_true]
    exact ⟨List.all_eq_true.2 fun x hx => List.all_eq_true.1 gall x (List.mem_of_mem_take hx), List.all_eq_true.2 fun x hx => List.all_eq_true.1 gall x (List.mem_of_mem_drop hx)⟩
  have hlen := (stepP_len a b c d ln kind k gl).2.2
  revert h hlen
  unfold stepP
  by_cases k1 : kind = 1
  · simp only [k1, if_true]
    by_cases h1 : inB 0 1 k = true ∧ ln.length < 12
    · simp only [h1, and_self, if_true]
      intro _ hlen
      simp only [goodP, Bool.and_eq_true, decide_eq_true_eq, List.all_append, List.all_cons, List.all_nil]
      exact ⟨hlen, ⟨⟨ga, gc⟩, ge⟩, ⟨⟨gb, gd⟩, gf⟩, gall, h1.1, trivial⟩
    · simp only [h1, if_false]; intro h; cases h
  · simp only [k1, if_false]
    by_cases k2 : kind = 2 ∨ kind = 3
    · simp only [k2, if_true]
      by_cases h1 : 0 ≤ k ∧ k < ln.length
      · simp only [h1, and_self, if_true]
        have e : (k + 1).toNat = k.toNat + 1 := by omega
        rw [e]
        by_cases k3 : kind = 2
        · simp only [k3, if_true]
          intro _ hlen
          have hm : rd_T36 ln k ∈ ln := by
            unfold rd_T36
            rw [List.getD_eq_getElem?_getD, List.getElem?_eq_getElem (by omega)]
            exact List.getElem_mem _
          have h01 := List.all_eq_true.1 gall _ hm
          generalize rd_T36 ln k = y at h01
          rw [inB_iff] at h01
          have hv : inB 0 2 (if y.f1 then (2 : Int) else 1) = true ∧ ((if y.f1 then (2 : Int) else 1) == 0) = false := by cases y.f1 <;> exact ⟨rfl, rfl⟩
          generalize (if y.f1 then (2 : Int) else 1) = u at hv
          rcases (by omega : y.f0 = 0 ∨ y.f0 = 1) with hy | hy
          · simp only [hy, show ((1 : Int) - 0).toNat = 1 from rfl, List.set_cons_succ, List.set_cons_zero, goodP, Bool.and_eq_true, decide_eq_true_eq, hv.2]
            exact ⟨hlen, ⟨⟨ga, gc⟩, ge⟩, ⟨⟨hv.1, rfl⟩, rfl⟩, hall _⟩
          · simp only [hy, show ((1 : Int) - 1).toNat = 0 from rfl, List.set_cons_succ, List.set_cons_zero, goodP, Bool.and_eq_true, decide_eq_true_eq, hv.2]
            exact ⟨hlen, ⟨⟨hv.1, rfl⟩, rfl⟩, ⟨⟨gb, gd⟩, gf⟩, hall _⟩
        · simp only [k3, if_false]
          intro _ hlen
          simp only [goodP, Bool.and_eq_true, decide_eq_true_eq]
          exact ⟨hlen, ⟨⟨ga, gc⟩, ge⟩, ⟨⟨gb, gd⟩, gf⟩, hall _⟩
      · simp only [h1, if_false]; intro h; cases h
    · simp only [k2, if_false]
      by_cases k4 : kind = 4
      · simp only [k4, if_true]
        by_cases h1 : k = 0
        · simp only [h1, if_true]
          intro _ hlen
          have ht : ∀ x y : Int, inB 0 2 x = true → inB 0 3 y = true → ((y == 0) == (x == 0)) = true → inB 0 2 (tick1 x y).1 = true ∧ inB 0 3 (tick1 x y).2 = true ∧ (((tick1 x y).2 == 0) == ((tick1 x y).1 == 0)) = true := by
            intro x y hx hy he
            rw [inB_iff] at hx hy
            have he2 : (y = 0 ↔ x = 0) := by
              have := eq_of_beq he
              constructor
              · intro h; subst h; exact eq_of_beq (this.symm.trans rfl)
              · intro h; subst h; exact eq_of_beq (this.trans rfl)
            unfold tick1
            by_cases x0 : x = 0
            · rw [if_pos x0]; exact ⟨inB_iff.2 hx, inB_iff.2 hy, he⟩
            · rw [if_neg x0]
              have y0 : ¬ y = 0 := fun h => x0 (he2.1 h)
              by_cases y1 : y - 1 = 0
              · rw [if_pos y1]; exact ⟨rfl, inB_iff.2 (by simp only; omega), by simp only [y1]; rfl⟩
              · rw [if_neg y1]
                refine ⟨inB_iff.2 hx, inB_iff.2 (by simp only; omega), ?_⟩
                rw [show ((y - 1 == 0) = false) from by simpa using y1, show ((x == 0) = false) from by simpa using x0]; rfl
          have t1 := ht a c ga gc ge
          have t2 := ht b d gb gd gf
          simp only [goodP, Bool.and_eq_true, decide_eq_true_eq]
          exact ⟨gl, ⟨⟨t1.1, t1.2.1⟩, t1.2.2⟩, ⟨⟨t2.1, t2.2.1⟩, t2.2.2⟩, gall⟩
        · simp only [h1, if_false]; intro h; cases h
      · simp only [k4, if_false]; intro h; cases h
theorem settle1 {a b c d s : Int} (hs : s = 0 ∨ s = 1) (g : goodP [a, b] [c, d] [] = true) : ∃ a' b' c' d' y, stepP a b c d [] 1 s = ([a, b], [c, d], [y], true) ∧ goodP [a, b] [c, d] [y] = true ∧ stepP a b c d [y] 2 0 = ([a', b'], [c', d'], [], true) ∧ goodP [a', b'] [c', d'] [] = true := by
  have h1 : inB 0 1 s = true := by rcases hs with rfl | rfl <;> rfl
  have e1 : stepP a b c d [] 1 s = ([a, b], [c, d], [(⟨s, (rd [a, b] s) != 0⟩ : S36)], true) := by simp [stepP, h1]
  have g1 : goodP [a, b] [c, d] [(⟨s, (rd [a, b] s) != 0⟩ : S36)] = true := by
    have := good_step (kind := 1) (k := s) g (by rw [e1])
    rw [e1] at this; exact this
  generalize (⟨s, (rd [a, b] s) != 0⟩ : S36) = y at e1 g1
  have e2 : stepP a b c d [y] 2 0 = ([a, b].set (1 - y.f0).toNat (if y.f1 then 2 else 1), [c, d].set (1 - y.f0).toNat 3, [], true) := by simp [stepP, rd_T36]
  have g2 := good_step (kind := 2) (k := 0) g1 (by rw [e2])
  obtain ⟨a', b', c', d', q1, q2⟩ := goodP_two g2
  rw [e2] at q1 q2 g2
  simp only at q1 q2 g2
  rw [q1, q2] at g2 e2
  exact ⟨a', b', c', d', y, e1, g1, e2, g2⟩
theorem stepped_two (a b c d : Int) (ln : List S36) (kind k : Int) (g : goodP [a, b] [c, d] ln = true) : stepped [a, b] [c, d] ln kind k = stepP a b c d ln kind k := by
  unfold stepped
  rw [if_pos g]
/-- both sides neighbours; a pair made anew. -/
def areV (st lf : List Int) (ln : List S36) : Bool × Bool := if goodP st lf ln = true then (decide (rd st 0 = 2 ∧ rd st 1 = 2), true) else (false, false)
def newP (a : Int) : List Int × List Int × List S36 × Bool := if inB 0 3 a = true then (if a = 0 then ([0, 0], [a, a], [], true) else ([1, 1], [a, a], [], true)) else nilP
theorem newP_len (a : Int) : (newP a).1.length ≤ 2 ∧ (newP a).2.1.length ≤ 2 ∧ (newP a).2.2.1.length ≤ 2 := by
  unfold newP nilP
  split
  · split <;> simp
  · simp
/-- what a step tells of a side whose state it changed. -/
theorem stepP_law {a b c d : Int} {ln : List S36} {kind k : Int} (g : goodP [a, b] [c, d] ln = true) (h : (stepP a b c d ln kind k).2.2.2 = true) (i : Int) (hi : i = 0 ∨ i = 1) :
    (rd (stepP a b c d ln kind k).1 i ≠ rd [a, b] i → kind = 2 ∨ kind = 4) ∧ (rd (stepP a b c d ln kind k).1 i = 2 → rd [a, b] i = 2 ∨ (kind = 2 ∧ 0 ≤ k ∧ k < (ln.length : Int) ∧ (rd_T36 ln k).f1 = true ∧ (rd_T36 ln k).f0 ≠ i)) := by
  simp only [goodP, Bool.and_eq_true, decide_eq_true_eq] at g
  obtain ⟨gl, _, _, gall⟩ := g
  revert h
  unfold stepP
  by_cases k1 : kind = 1
  · simp only [k1, if_true]
    by_cases h1 : inB 0 1 k = true ∧ ln.length < 12
    · simp only [h1, and_self, if_true]
      exact fun _ => ⟨fun hh => absurd rfl hh, fun hh => Or.inl hh⟩
    · simp only [h1, if_false]; intro h; cases h
  · simp only [k1, if_false]
    by_cases k2 : kind = 2 ∨ kind = 3
    · simp only [k2, if_true]
      by_cases h1 : 0 ≤ k ∧ k < ln.length
      · simp only [h1, and_self, if_true]
        by_cases k3 : kind = 2
        · simp only [k3, if_true]
          intro _
          have hm : rd_T36 ln k ∈ ln := by
            unfold rd_T36
            rw [List.getD_eq_getElem?_getD, List.getElem?_eq_getElem (by omega)]
            exact List.getElem_mem _
          have h01 := List.all_eq_true.1 gall _ hm
          generalize rd_T36 ln k = y at h01 ⊢
          rw [inB_iff] at h01
          refine ⟨fun _ => (by simp), ?_⟩
          rcases (by omega : y.f0 = 0 ∨ y.f0 = 1) with hy | hy <;> rcases hi with rfl | rfl
          · simp only [hy]
            exact fun hh => Or.inl hh
          · simp only [hy]
            intro hh
            replace hh : (if y.f1 = true then (2 : Int) else 1) = 2 := hh
            by_cases hf : y.f1 = true
            · exact Or.inr ⟨trivial, trivial, trivial, hf, by omega⟩
            · rw [if_neg hf] at hh; omega
          · simp only [hy]
            intro hh
            replace hh : (if y.f1 = true then (2 : Int) else 1) = 2 := hh
            by_cases hf : y.f1 = true
            · exact Or.inr ⟨trivial, trivial, trivial, hf, by omega⟩
            · rw [if_neg hf] at hh; omega
          · simp only [hy]
            exact fun hh => Or.inl hh
        · simp only [k3, if_false]
          exact fun _ => ⟨fun hh => absurd rfl hh, fun hh => Or.inl hh⟩
      · simp only [h1, if_false]; intro h; cases h
    · simp only [k2, if_false]
      by_cases k4 : kind = 4
      · simp only [k4, if_true]
        by_cases h1 : k = 0
        · simp only [h1, if_true]
          intro _
          refine ⟨fun _ => (by simp), fun hh => Or.inl ?_⟩
          have ht : ∀ x y : Int, (tick1 x y).1 = 2 → x = 2 := by
            intro x y
            unfold tick1
            split
            · exact id
            · split
              · intro h2; simp at h2
              · exact id
          rcases hi with rfl | rfl
          · exact ht a c hh
          · exact ht b d hh
        · simp only [h1, if_false]; intro h; cases h
      · simp only [k4, if_false]; intro h; cases h

end Go.Proofs.Ytefdgdloghhnaaa.Pure
