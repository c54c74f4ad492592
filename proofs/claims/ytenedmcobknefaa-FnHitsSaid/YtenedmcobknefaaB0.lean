/- Plain facts on the kinds of the program, used by the texts of this claim. -/
import Derived.Test.YtenedmcobknefaaF0
import Derived.Test.YtenedmcobknefaaQBase
import Derived.Test.YtenedmcobknefaaQGraph
namespace Go.Proofs.Ytenedmcobknefaa.Pure
open Go.RowKit Go.Proofs.Ytenedmcobknefaa.P Go.Proofs.YtenedmcobknefaaW.PrintWords Go.Proofs.Ytenedmcobknefaa.Q
set_option linter.unusedVariables false
set_option linter.unusedSimpArgs false

theorem rdSeen_at (p : List S27) (x : S27) (t : List S27) : rd_T27 (p ++ x :: t) (p.length : Int) = x := by simp [rd_T27]
theorem etaSeen (x : S27) : (⟨x.f0, x.f1, x.f2⟩ : S27) = x := rfl
def marksSeen : Nat → Int → List S27
  | 0, _ => []
  | n + 1, a => ⟨a, a + 1, a + 2⟩ :: marksSeen n (a + 3)
theorem marksSeen_length (n : Nat) : ∀ a, (marksSeen n a).length = n := by
  induction n with
  | zero => intro a; rfl
  | succ n ih => intro a; simp [marksSeen, ih]
/-! Tables: what the programs' functions say of them. -/
def seen3 (a b c : Int) : Bool := inB 1 99 a && (inB 0 9 b && inB 0 10000 c)
def lastB (p : List S27) (x : S27) : Bool := match p.getLast? with
  | none => true
  | some y => decide (x.f2 ≤ y.f2)
def newB (p : List S27) (h : Int) : Bool := p.all fun y => decide (y.f0 ≠ h)
def rowsB : List S27 → List S27 → Bool
  | _, [] => true
  | p, x :: t => seen3 x.f0 x.f1 x.f2 && (lastB p x && (newB p x.f0 && rowsB (p ++ [x]) t))
def goodT (room : Int) (l : List S27) : Bool := (inB 1 8 room && decide ((l.length : Int) ≤ room)) && rowsB [] l
def RS (a b : S27) : Prop := a.f0 ≠ b.f0 ∧ b.f2 ≤ a.f2
theorem rowsB_key (p : List S27) (x : S27) (hp : p.Pairwise RS) : (lastB p x = true ∧ newB p x.f0 = true) ↔ (p ++ [x]).Pairwise RS := by
  rw [List.pairwise_append]
  constructor
  · rintro ⟨hl, hn⟩
    refine ⟨hp, List.pairwise_singleton _ _, fun a ha b hb => ?_⟩
    rw [List.mem_singleton] at hb
    subst hb
    refine ⟨by simpa using (List.all_eq_true.1 hn a ha), ?_⟩
    rcases List.eq_nil_or_concat p with rfl | ⟨q, y, rfl⟩
    · simp at ha
    · simp only [List.concat_eq_append] at *
      have hy : b.f2 ≤ y.f2 := by simpa [lastB] using hl
      rcases List.mem_append.1 ha with ha | ha
      · have := ((List.pairwise_append.1 hp).2.2 a ha y (by simp)).2
        omega
      · rw [List.mem_singleton] at ha
        subst ha
        exact hy
  · rintro ⟨_, _, h⟩
    constructor
    · rcases List.eq_nil_or_concat p with rfl | ⟨q, y, rfl⟩
      · rfl
      · simp only [List.concat_eq_append] at *
        simpa [lastB] using (h y (by simp) x (by simp)).2
    · refine List.all_eq_true.2 fun y hy => ?_
      simpa using (h y hy x (by simp)).1
theorem rowsB_iff : ∀ (t p : List S27), p.Pairwise RS → (rowsB p t = true ↔ (∀ x ∈ t, seen3 x.f0 x.f1 x.f2 = true) ∧ (p ++ t).Pairwise RS)
  | [], p, hp => by simp [rowsB, hp]
  | x :: t, p, hp => by
    have key := rowsB_key p x hp
    have e : p ++ x :: t = (p ++ [x]) ++ t := by simp
    simp only [rowsB, Bool.and_eq_true]
    constructor
    · rintro ⟨hs, hl, hn, hr⟩
      have hp2 := key.1 ⟨hl, hn⟩
      obtain ⟨h1, h2⟩ := (rowsB_iff t _ hp2).1 hr
      refine ⟨fun y hy => ?_, by rw [e]; exact h2⟩
      rcases List.mem_cons.1 hy with rfl | hy
      · exact hs
      · exact h1 y hy
    · rintro ⟨hs, hw⟩
      rw [e] at hw
      have hp2 := (List.pairwise_append.1 hw).1
      obtain ⟨hl, hn⟩ := key.2 hp2
      exact ⟨hs x (by simp), hl, hn, (rowsB_iff t _ hp2).2 ⟨fun y hy => hs y (by simp [hy]), hw⟩⟩
theorem goodT_iff (room : Int) (l : List S27) : goodT room l = true ↔ 1 ≤ room ∧ room ≤ 8 ∧ (l.length : Int) ≤ room ∧ (∀ x ∈ l, seen3 x.f0 x.f1 x.f2 = true) ∧ l.Pairwise RS := by
  simp only [goodT, Bool.and_eq_true, inB_iff, decide_eq_true_eq, rowsB_iff l [] List.Pairwise.nil, List.nil_append]
  constructor
  · rintro ⟨⟨⟨a, b⟩, c⟩, d, e⟩; exact ⟨a, b, c, d, e⟩
  · rintro ⟨a, b, c, d, e⟩; exact ⟨⟨⟨a, b⟩, c⟩, d, e⟩
theorem goodT_filter {room : Int} {l : List S27} (h : goodT room l = true) (g : S27 → Bool) : goodT room (l.filter g) = true := by
  obtain ⟨a, b, c, d, e⟩ := (goodT_iff room l).1 h
  have := List.length_filter_le g l
  exact (goodT_iff _ _).2 ⟨a, b, by omega, fun x hx => d x (List.mem_filter.1 hx).1, e.filter g⟩
def headB (l : List S27) (c : Int) : Bool := match l with
  | [] => true
  | y :: _ => decide (y.f2 ≤ c)
def learnV (room : Int) (l : List S27) (x : S27) : List S27 := x :: (l.filter fun y => y.f0 != x.f0).take (room - 1).toNat
theorem learnV_length (room : Int) (l : List S27) (x : S27) : (learnV room l x).length ≤ l.length + 1 := by
  have := List.length_filter_le (fun y : S27 => y.f0 != x.f0) l
  simp only [learnV, List.length_cons, List.length_take]
  omega
theorem goodT_learn {room : Int} {l : List S27} (h : goodT room l = true) (x : S27) (hx : seen3 x.f0 x.f1 x.f2 = true) (hh : headB l x.f2 = true) : goodT room (learnV room l x) = true := by
  obtain ⟨a, b, c, d, e⟩ := (goodT_iff room l).1 h
  have hall : ∀ y ∈ l, y.f2 ≤ x.f2 := by
    cases l with
    | nil => simp
    | cons z t =>
      have hz : z.f2 ≤ x.f2 := by simpa [headB] using hh
      intro y hy
      rcases List.mem_cons.1 hy with rfl | hy
      · exact hz
      · have := (List.rel_of_pairwise_cons e hy).2
        omega
  have hm : ∀ y ∈ (l.filter fun y => y.f0 != x.f0).take (room - 1).toNat, y ∈ l ∧ y.f0 ≠ x.f0 := by
    intro y hy
    have := List.mem_filter.1 (List.mem_of_mem_take hy)
    exact ⟨this.1, by simpa using this.2⟩
  refine (goodT_iff _ _).2 ⟨a, b, ?_, ?_, ?_⟩
  · simp only [learnV, List.length_cons, List.length_take]; omega
  · intro y hy
    rcases List.mem_cons.1 hy with rfl | hy
    · exact hx
    · exact d y (hm y hy).1
  · refine List.pairwise_cons.2 ⟨fun y hy => ⟨fun he => (hm y hy).2 he.symm, hall y (hm y hy).1⟩, (e.filter _).sublist (List.take_sublist _ _)⟩
/-- The first place where g holds, -1 for none. -/
def findV (g : S27 → Bool) : Nat → List S27 → Int
  | _, [] => -1
  | i, x :: t => if g x = true then (i : Int) else findV g (i + 1) t
theorem findV_none (g : S27 → Bool) : ∀ (l : List S27) (i : Nat), (∀ x ∈ l, g x = false) → findV g i l = -1
  | [], _, _ => rfl
  | x :: t, i, h => by
    unfold findV
    rw [if_neg (by simp [h x (by simp)]), findV_none g t (i + 1) (fun y hy => h y (by simp [hy]))]
theorem findV_le (g : S27 → Bool) : ∀ (l : List S27) (i : Nat), findV g i l = -1 ∨ ((i : Int) ≤ findV g i l ∧ findV g i l < (i : Int) + l.length)
  | [], _ => .inl rfl
  | x :: t, i => by
    unfold findV
    split
    · right; simp only [List.length_cons]; omega
    · rcases findV_le g t (i + 1) with h | h
      · exact .inl h
      · right; simp only [List.length_cons]; omega
theorem findV_new (x : S27) (t : List S27) : ∀ (p : List S27) (i : Nat), decide (findV (fun s => s.f0 == x.f0) i (p ++ x :: t) < ((i + p.length : Nat) : Int)) = !newB p x.f0
  | [], i => by simp [findV, newB]
  | y :: p, i => by
    have ih := findV_new x t p (i + 1)
    by_cases h : y.f0 = x.f0
    · simp only [List.cons_append, findV, h, beq_self_eq_true, if_true, newB, List.all_cons, ne_eq, not_true_eq_false, decide_false, Bool.false_and, Bool.not_false, List.length_cons]
      simp; omega
    · have e : newB (y :: p) x.f0 = newB p x.f0 := by simp [newB, h]
      rw [e, ← ih]
      simp only [List.cons_append, findV, beq_iff_eq, h, if_false, List.length_cons]
      rw [show i + (p.length + 1) = i + 1 + p.length by omega]
def portV (room : Int) (l : List S27) (h : Int) : Int × Bool := if goodT room l = true then (if findV (fun s => s.f0 == h) 0 l < 0 then (0, false) else ((rd_T27 l (findV (fun s => s.f0 == h) 0 l)).f1, true)) else (0, false)
def learnedV (room : Int) (l : List S27) (x : S27) : Int × List S27 × Bool := if goodT room l = true then (if seen3 x.f0 x.f1 x.f2 = true then (if headB l x.f2 = true then (room, learnV room l x, true) else (0, [], false)) else (0, [], false)) else (0, [], false)
def flushV (room : Int) (l : List S27) (a : Int) : Int × List S27 × Bool := if goodT room l = true then (if inB 0 9 a = true then (room, l.filter (fun y => y.f1 != a), true) else (0, [], false)) else (0, [], false)
def dropV (room : Int) (l : List S27) (a b : Int) : Int × List S27 × Bool := if goodT room l = true then (if inB 0 10000 a = true then (if inB 0 10000 b = true then (room, l.filter (fun y => decide (wrap64 (a - b) ≤ y.f2)), true) else (0, [], false)) else (0, [], false)) else (0, [], false)
theorem portV_first {room : Int} {x : S27} {t : List S27} (h : goodT room (x :: t) = true) : portV room (x :: t) x.f0 = (x.f1, true) := by
  unfold portV
  rw [if_pos h]
  have e : findV (fun s => s.f0 == x.f0) 0 (x :: t) = 0 := by simp [findV]
  rw [e, if_neg (by omega)]
  simp [rd_T27]
theorem portV_none {room : Int} {l : List S27} {h : Int} (hn : ∀ y ∈ l, y.f0 ≠ h) : portV room l h = (0, false) := by
  unfold portV
  rw [findV_none _ l 0 (fun y hy => by simpa using hn y hy)]
  split <;> simp
theorem take_snoc {α : Type} (l : List α) (y : α) (n : Nat) : (l ++ [y]).take n = if l.length < n then l.take n ++ [y] else l.take n := by
  split
  · rename_i h
    rw [List.take_of_length_le (show (l ++ [y]).length ≤ n by simp; omega), List.take_of_length_le (by omega)]
  · rename_i h
    rw [List.take_append_of_le_length (by omega)]
theorem rdSeen_last (q : List S27) (y : S27) (t : List S27) : rd_T27 ((q ++ [y]) ++ t) (q.length : Int) = y := by simp [rd_T27]

end Go.Proofs.Ytenedmcobknefaa.Pure
