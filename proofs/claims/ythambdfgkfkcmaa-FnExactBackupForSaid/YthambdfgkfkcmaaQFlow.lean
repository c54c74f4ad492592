import Derived.Test.YthambdfgkfkcmaaQNear
namespace Go.Proofs.Ythambdfgkfkcmaa.Q
open Go.RowKit Go.Proofs.YthambdfgkfkcmaaW.PrintWords
set_option linter.unusedVariables false
set_option linter.unusedSimpArgs false

/-! Ways apart: a walk from one spot over what is open, and the edges used along it. -/
/-- The number of an edge from x to y, and its direction. -/
def edgeFrom (x y : Int) : Nat → List (Int × Int) → Int × Int
  | _, [] => (-1, 0)
  | i, e :: t => if e.1 = x ∧ e.2 = y then ((i : Int), 1) else if e.1 = y ∧ e.2 = x then ((i : Int), -1) else edgeFrom x y (i + 1) t
theorem edgeFrom_num (x y : Int) : ∀ (t : List (Int × Int)) (i : Nat), (edgeFrom x y i t).1 = numFrom x y i t
  | [], _ => rfl
  | e :: t, i => by
    unfold edgeFrom numFrom
    by_cases h1 : e.1 = x ∧ e.2 = y
    · rw [if_pos h1, if_pos (Or.inl h1)]
    · rw [if_neg h1]
      by_cases h2 : e.1 = y ∧ e.2 = x
      · rw [if_pos h2, if_pos (Or.inr h2)]
      · rw [if_neg h2, if_neg (by rintro (h | h); exact h1 h; exact h2 h)]
        exact edgeFrom_num x y t (i + 1)
/-- Where an edge stands: none, or one and its direction. -/
theorem edgeFrom_cases {x y : Int} (hxy : x ≠ y) : ∀ (t : List (Int × Int)) (i : Nat), (edgeFrom x y i t = (-1, 0)) ∨ ∃ j, ∃ h : j < t.length, ((edgeFrom x y i t = (((i + j : Nat) : Int), 1) ∧ t[j] = (x, y)) ∨ (edgeFrom x y i t = (((i + j : Nat) : Int), -1) ∧ t[j] = (y, x)))
  | [], _ => Or.inl rfl
  | e :: t, i => by
    unfold edgeFrom
    by_cases h1 : e.1 = x ∧ e.2 = y
    · rw [if_pos h1]
      exact Or.inr ⟨0, by simp, Or.inl ⟨rfl, Prod.ext h1.1 h1.2⟩⟩
    · rw [if_neg h1]
      by_cases h2 : e.1 = y ∧ e.2 = x
      · rw [if_pos h2]
        exact Or.inr ⟨0, by simp, Or.inr ⟨rfl, Prod.ext h2.1 h2.2⟩⟩
      · rw [if_neg h2]
        rcases edgeFrom_cases hxy t (i + 1) with h | ⟨j, hj, h⟩
        · exact Or.inl h
        · refine Or.inr ⟨j + 1, by simpa using hj, ?_⟩
          rw [show i + 1 + j = i + (j + 1) from by omega] at h
          simpa using h
/-- Numbers from 0 on. -/
def upto (n : Nat) : List Int := (List.range n).map Int.ofNat
theorem upto_mem {n : Nat} {v : Int} : v ∈ upto n ↔ 0 ≤ v ∧ v < (n : Int) := by
  unfold upto
  rw [List.mem_map]
  constructor
  · rintro ⟨k, hk, rfl⟩
    have := List.mem_range.1 hk
    exact ⟨by simp, by simpa using this⟩
  · rintro ⟨h0, h1⟩
    exact ⟨v.toNat, List.mem_range.2 (by omega), by simp; omega⟩
/-- One spot's turn: by whom a walk comes to its neighbours, and who waits. -/
def bfsIn (P : Int → Bool) (x : Int) : List Int → List Int × List Int → List Int × List Int
  | [], s => s
  | k :: t, s => bfsIn P x t (if rd s.1 k < 0 ∧ P k = true then (s.1.set k.toNat x, s.2 ++ [k]) else s)
theorem bfsIn_filter (P : Int → Bool) (x : Int) (c : Int → Bool) (h : ∀ k, P k = true → c k = true) : ∀ (ks : List Int) (s : List Int × List Int), bfsIn P x (ks.filter c) s = bfsIn P x ks s
  | [], _ => rfl
  | k :: t, s => by
    by_cases hc : c k = true
    · rw [List.filter_cons_of_pos hc]
      exact bfsIn_filter P x c h t _
    · rw [List.filter_cons_of_neg hc, bfsIn_filter P x c h t]
      show _ = bfsIn P x t _
      rw [if_neg fun hh => hc (h k hh.2)]
def bfs (P : Int → Int → Bool) (n : Nat) : Nat → List Int → List Int → List Int
  | 0, out, _ => out
  | _ + 1, out, [] => out
  | f + 1, out, x :: q => bfs P n f (bfsIn (P x) x (upto n) (out, q)).1 (bfsIn (P x) x (upto n) (out, q)).2
/-- How many were not come to. -/
def unv (n : Nat) (out : List Int) : Nat := (List.range n).countP fun v : Nat => decide (rd out (v : Int) < 0)
theorem unv_set {n : Nat} {out : List Int} (hl : out.length = n) {k x : Int} (k0 : 0 ≤ k) (k1 : k < (n : Int)) (hk : rd out k < 0) (hx : 0 ≤ x) : unv n (out.set k.toNat x) < unv n out := by
  unfold unv
  have hs : ∀ v : Nat, rd (out.set k.toNat x) (v : Int) = if (v : Int) = k then x else rd out (v : Int) := fun v => rd_set k0 (by omega) (by omega)
  refine countP_lt (y := k.toNat) (fun v _ hv => ?_) (List.mem_range.2 (by omega)) ?_ ?_
  · rw [hs] at hv
    by_cases h : (v : Int) = k
    · rw [if_pos h] at hv; simp at hv; omega
    · rw [if_neg h] at hv; exact hv
  · rw [hs, if_pos (by omega)]; simp; omega
  · simp only [decide_eq_true_eq]; rw [show ((k.toNat : Nat) : Int) = k by omega]; exact hk
/-- By whom a walk from a comes to all spots: a tree. -/
structure Inv (P : Int → Int → Bool) (n : Nat) (a : Int) (out : List Int) (rank : Int → Nat) : Prop where
  len : out.length = n
  root : rd out a = a
  rng : ∀ v : Int, 0 ≤ v → v < (n : Int) → rd out v = -1 ∨ (0 ≤ rd out v ∧ rd out v < (n : Int))
  tree : ∀ v : Int, 0 ≤ v → v < (n : Int) → v ≠ a → 0 ≤ rd out v → 0 ≤ rd out (rd out v) ∧ rank (rd out v) < rank v ∧ P (rd out v) v = true
  low : ∀ v : Int, 0 ≤ v → v < (n : Int) → 0 ≤ rd out v → rank v + unv n out < n
theorem Inv.set {P : Int → Int → Bool} {n : Nat} {a : Int} {out : List Int} {rank : Int → Nat} (h : Inv P n a out rank) (a0 : 0 ≤ a) {x k : Int} (x0 : 0 ≤ x) (x1 : x < (n : Int)) (hx : 0 ≤ rd out x) (k0 : 0 ≤ k) (k1 : k < (n : Int)) (hk : rd out k < 0) (hp : P x k = true) : ∃ rank', Inv P n a (out.set k.toNat x) rank' := by
  have hl := h.len
  have hs : ∀ v : Int, 0 ≤ v → rd (out.set k.toNat x) v = if v = k then x else rd out v := fun v hv => rd_set k0 (by omega) hv
  have hak : a ≠ k := fun e => by have := h.root; rw [e] at this; omega
  have hxk : x ≠ k := fun e => by rw [e] at hx; omega
  have hu := unv_set hl k0 k1 hk x0
  refine ⟨fun u => if u = k then rank x + 1 else rank u, by simpa using hl, ?_, ?_, ?_, ?_⟩
  · rw [hs a a0, if_neg hak]; exact h.root
  · intro v v0 v1
    rw [hs v v0]
    split
    · exact Or.inr ⟨x0, x1⟩
    · exact h.rng v v0 v1
  · intro v v0 v1 va hv
    rw [hs v v0] at hv ⊢
    by_cases e : v = k
    · rw [if_pos e] at hv ⊢
      rw [hs x x0, if_neg hxk]
      refine ⟨hx, ?_, by rw [e]; exact hp⟩
      simp only [if_neg hxk, if_pos e]; omega
    · rw [if_neg e] at hv ⊢
      obtain ⟨t1, t2, t3⟩ := h.tree v v0 v1 va hv
      have hpk : rd out v ≠ k := fun e => by rw [e] at t1; omega
      rw [hs _ hv, if_neg hpk]
      refine ⟨t1, ?_, t3⟩
      simp only [if_neg hpk, if_neg e]; exact t2
  · intro v v0 v1 hv
    rw [hs v v0] at hv
    by_cases e : v = k
    · simp only [if_pos e]
      have := h.low x x0 x1 hx
      omega
    · rw [if_neg e] at hv
      simp only [if_neg e]
      have := h.low v v0 v1 hv
      omega
/-- Who waits was come to. -/
def Wait (n : Nat) (out q : List Int) : Prop := ∀ v ∈ q, (0 ≤ v ∧ v < (n : Int)) ∧ 0 ≤ rd out v
theorem bfsIn_inv {P : Int → Int → Bool} {n : Nat} {a : Int} (a0 : 0 ≤ a) {x : Int} (x0 : 0 ≤ x) (x1 : x < (n : Int)) : ∀ (ks : List Int) (out q : List Int) (rank : Int → Nat), (∀ k ∈ ks, 0 ≤ k ∧ k < (n : Int)) → Inv P n a out rank → 0 ≤ rd out x → Wait n out q →
    (∃ rank', Inv P n a (bfsIn (P x) x ks (out, q)).1 rank') ∧ Wait n (bfsIn (P x) x ks (out, q)).1 (bfsIn (P x) x ks (out, q)).2 ∧ unv n (bfsIn (P x) x ks (out, q)).1 + (bfsIn (P x) x ks (out, q)).2.length ≤ unv n out + q.length
  | [], out, q, rank, _, hi, _, hw => ⟨⟨rank, hi⟩, hw, Nat.le_refl _⟩
  | k :: t, out, q, rank, hk, hi, hx, hw => by
    unfold bfsIn
    obtain ⟨k0, k1⟩ := hk k (by simp)
    by_cases h : rd out k < 0 ∧ P x k = true
    · simp only [h, and_self, if_true]
      obtain ⟨rank', hi'⟩ := hi.set a0 x0 x1 hx k0 k1 h.1 h.2
      have hl := hi.len
      have hs : ∀ v : Int, 0 ≤ v → rd (out.set k.toNat x) v = if v = k then x else rd out v := fun v hv => rd_set k0 (by omega) hv
      have hu := unv_set hl k0 k1 h.1 x0
      have := bfsIn_inv a0 x0 x1 t (out.set k.toNat x) (q ++ [k]) rank' (fun k hk' => hk k (by simp [hk'])) hi' (by rw [hs x x0]; split; exact x0; exact hx) (fun v hv => by
        rcases List.mem_append.1 hv with hv | hv
        · obtain ⟨v1, v2⟩ := hw v hv
          refine ⟨v1, ?_⟩
          rw [hs v v1.1]; split
          · exact x0
          · exact v2
        · rw [List.mem_singleton.1 hv]
          exact ⟨⟨k0, k1⟩, by rw [hs k k0, if_pos rfl]; exact x0⟩)
      refine ⟨this.1, this.2.1, Nat.le_trans this.2.2 ?_⟩
      simp only [List.length_append, List.length_cons, List.length_nil]; omega
    · simp only [h, if_false]
      exact bfsIn_inv a0 x0 x1 t out q rank (fun k hk' => hk k (by simp [hk'])) hi hx hw
theorem bfs_inv {P : Int → Int → Bool} {n : Nat} {a : Int} (a0 : 0 ≤ a) : ∀ (f : Nat) (out q : List Int) (rank : Int → Nat), Inv P n a out rank → Wait n out q → ∃ rank', Inv P n a (bfs P n f out q) rank'
  | 0, out, _, rank, hi, _ => ⟨rank, hi⟩
  | _ + 1, out, [], rank, hi, _ => ⟨rank, hi⟩
  | f + 1, out, x :: q, rank, hi, hw => by
    obtain ⟨hx, hx2⟩ := hw x (by simp)
    obtain ⟨⟨rank', h1⟩, h2, _⟩ := bfsIn_inv a0 hx.1 hx.2 (upto n) out q rank (fun k hk => upto_mem.1 hk) hi hx2 (fun v hv => hw v (by simp [hv]))
    exact bfs_inv a0 f _ _ rank' h1 h2
/-- Nobody but a was come to. -/
def only (n : Nat) (a : Int) : List Int := (List.replicate n (-1 : Int)).set a.toNat a
theorem rd_only {n : Nat} {a v : Int} (a0 : 0 ≤ a) (a1 : a < (n : Int)) (v0 : 0 ≤ v) (v1 : v < (n : Int)) : rd (only n a) v = if v = a then a else -1 := by
  unfold only
  rw [rd_set a0 (by simpa using a1) v0]
  split
  · rfl
  · exact rd_replicate n (-1) v v0 v1
theorem only_inv (P : Int → Int → Bool) {n : Nat} {a : Int} (a0 : 0 ≤ a) (a1 : a < (n : Int)) : Inv P n a (only n a) fun _ => 0 := by
  have hr : rd (List.replicate n (-1 : Int)) a < 0 := by rw [rd_replicate n (-1) a a0 a1]; omega
  have hu := unv_set (List.length_replicate (n := n) (a := (-1 : Int))) a0 a1 hr a0
  have hu2 : unv n (List.replicate n (-1 : Int)) ≤ n := by
    unfold unv
    exact Nat.le_trans List.countP_le_length (by simp)
  refine ⟨by simp [only], by rw [rd_only a0 a1 a0 a1, if_pos rfl], fun v v0 v1 => ?_, fun v v0 v1 va hv => ?_, fun v v0 v1 hv => ?_⟩
  · rw [rd_only a0 a1 v0 v1]
    split
    · exact Or.inr ⟨a0, a1⟩
    · exact Or.inl rfl
  · rw [rd_only a0 a1 v0 v1, if_neg va] at hv; omega
  · show 0 + unv n (only n a) < n
    unfold only
    omega
theorem only_wait {n : Nat} {a : Int} (a0 : 0 ≤ a) (a1 : a < (n : Int)) : Wait n (only n a) [a] := fun v hv => by
  rw [List.mem_singleton.1 hv]
  exact ⟨⟨a0, a1⟩, by rw [rd_only a0 a1 a0 a1, if_pos rfl]; exact a0⟩
theorem only_unv {n : Nat} {a : Int} (a0 : 0 ≤ a) (a1 : a < (n : Int)) : unv n (only n a) + [a].length ≤ n := by
  have := (only_inv (fun _ _ => true) a0 a1).low a a0 a1 (by rw [rd_only a0 a1 a0 a1, if_pos rfl]; exact a0)
  simp only [List.length_cons, List.length_nil]; omega
/-- Whether one may go from one to another: there is an edge, not used in this direction. -/
def openB (ab : List (Int × Int)) (u : List Int) (x y : Int) : Bool := decide (0 ≤ (edgeFrom x y 0 ab).1) && decide (rd u (edgeFrom x y 0 ab).1 ≠ (edgeFrom x y 0 ab).2)
def searchV (ab : List (Int × Int)) (n : Nat) (u : List Int) (a : Int) : List Int := bfs (openB ab u) n n (only n a) [a]
theorem searchV_inv (ab : List (Int × Int)) {n : Nat} (u : List Int) {a : Int} (a0 : 0 ≤ a) (a1 : a < (n : Int)) : ∃ rank, Inv (openB ab u) n a (searchV ab n u a) rank := bfs_inv a0 n _ _ _ (only_inv _ a0 a1) (only_wait a0 a1)
/-- An edge used once more in a direction. -/
def upd (ab : List (Int × Int)) (u : List Int) (x y : Int) : List Int := u.set (edgeFrom x y 0 ab).1.toNat (rd u (edgeFrom x y 0 ab).1 + (edgeFrom x y 0 ab).2)
/-- All of a way used, from its end back. -/
def aug (ab : List (Int × Int)) (by_ : List Int) (a : Int) : Nat → Int → List Int → List Int
  | 0, _, u => u
  | f + 1, at_, u => if at_ = a then u else aug ab by_ a f (rd by_ at_) (upd ab u (rd by_ at_) at_)
def fill (ab : List (Int × Int)) (n : Nat) (a b : Int) : Nat → List Int → List Int
  | 0, u => u
  | f + 1, u => if rd (searchV ab n u a) b < 0 then u else fill ab n a b f (aug ab (searchV ab n u a) a n b u)
def flowV (ab : List (Int × Int)) (n : Nat) (a b : Int) : List Int := fill ab n a b (ab.length + 1) (List.replicate ab.length 0)
/-- Edges that are written the one way and once. -/
def Plain (n : Nat) (ab : List (Int × Int)) : Prop := (∀ e ∈ ab, e.1 < e.2) ∧ ab.Nodup ∧ Within n ab
def Unit1 (ab : List (Int × Int)) (u : List Int) : Prop := u.length = ab.length ∧ ∀ i : Int, 0 ≤ i → i < (ab.length : Int) → -1 ≤ rd u i ∧ rd u i ≤ 1
/-- How much goes out of a. -/
def outOf (a : Int) : List (Int × Int) → List Int → Int
  | e :: t, x :: u => (if e.1 = a then x else if e.2 = a then -x else 0) + outOf a t u
  | _, _ => 0
theorem outOf_le (a : Int) : ∀ (ab : List (Int × Int)) (u : List Int), (∀ x ∈ u, -1 ≤ x ∧ x ≤ 1) → outOf a ab u ≤ (ab.length : Int)
  | [], _, _ => by simp [outOf]
  | e :: t, [], _ => by simp [outOf]; omega
  | e :: t, x :: u, h => by
    have ih := outOf_le a t u fun y hy => h y (by simp [hy])
    have hx := h x (by simp)
    simp only [outOf, List.length_cons]
    split
    · omega
    · split <;> omega
theorem outOf_set (a : Int) : ∀ (ab : List (Int × Int)) (u : List Int) (j : Nat) (hj : j < ab.length) (hu : j < u.length) (x : Int), outOf a ab (u.set j x) = outOf a ab u + (if (ab[j]).1 = a then x - u[j] else if (ab[j]).2 = a then u[j] - x else 0)
  | e :: t, y :: u, 0, _, _, x => by
    simp only [List.set_cons_zero, outOf, List.getElem_cons_zero]
    split
    · omega
    · split <;> omega
  | e :: t, y :: u, j + 1, hj, hu, x => by
    simp only [List.set_cons_succ, outOf, List.getElem_cons_succ]
    rw [outOf_set a t u j (by simpa using hj) (by simpa using hu) x]
    omega
  | [], _, _, hj, _, _ => absurd hj (by simp)
  | _ :: _, [], _, _, hu, _ => absurd hu (by simp)
theorem outOf_zero (a : Int) : ∀ (ab : List (Int × Int)) (m : Nat), outOf a ab (List.replicate m 0) = 0
  | [], _ => by simp [outOf]
  | _ :: _, 0 => by simp [outOf]
  | e :: t, m + 1 => by
    rw [List.replicate_succ]
    simp only [outOf, outOf_zero a t m]
    split <;> simp
theorem rd_nat {u : List Int} {j : Nat} (h : j < u.length) : rd u (j : Int) = u[j] := by
  rw [rd_get (by omega) (by omega)]; simp
theorem aug_spec {n : Nat} {ab : List (Int × Int)} {a : Int} {by_ u0 : List Int} {rank : Int → Nat} (hi : Inv (openB ab u0) n a by_ rank) : ∀ (f : Nat) (v : Int) (u : List Int), rank v < f → 0 ≤ v → v < (n : Int) → 0 ≤ rd by_ v → Unit1 ab u → (∀ (j : Nat) (h : j < ab.length), rank (ab[j]).1 ≤ rank v → rank (ab[j]).2 ≤ rank v → rd u (j : Int) = rd u0 (j : Int)) →
    Unit1 ab (aug ab by_ a f v u) ∧ outOf a ab (aug ab by_ a f v u) = outOf a ab u + (if v = a then 0 else 1)
  | 0, _, _, hf, _, _, _, _, _ => absurd hf (by omega)
  | f + 1, v, u, hf, v0, v1, hv, hu, hs => by
    unfold aug
    by_cases hva : v = a
    · rw [if_pos hva, if_pos hva]
      exact ⟨hu, by omega⟩
    · rw [if_neg hva, if_neg hva]
      obtain ⟨t1, t2, t3⟩ := hi.tree v v0 v1 hva hv
      have hr := (hi.rng v v0 v1).resolve_left (by omega)
      generalize hpe : rd by_ v = p at t1 t2 t3 hr
      have hpv : p ≠ v := fun e => by rw [e] at t2; omega
      unfold openB at t3
      rw [Bool.and_eq_true, decide_eq_true_eq, decide_eq_true_eq] at t3
      obtain ⟨t3, t4⟩ := t3
      rcases edgeFrom_cases hpv ab 0 with h | ⟨j, hj, h⟩
      · rw [h] at t3; simp at t3
      have hul := hu.1
      have key : ∀ d : Int, (d = 1 ∨ d = -1) → edgeFrom p v 0 ab = ((j : Int), d) → (ab[j] = (p, v) ∧ d = 1 ∨ ab[j] = (v, p) ∧ d = -1) → Unit1 ab (aug ab by_ a f p (upd ab u p v)) ∧ outOf a ab (aug ab by_ a f p (upd ab u p v)) = outOf a ab u + 1 := by
        intro d hd he hj2
        have hj0 : rd u (j : Int) = rd u0 (j : Int) := by
          refine hs j hj ?_ ?_ <;> rcases hj2 with ⟨e, _⟩ | ⟨e, _⟩ <;> rw [e] <;> simp only <;> omega
        rw [he] at t4
        simp only at t4
        rw [← hj0] at t4
        have hb := hu.2 (j : Int) (by omega) (by omega)
        have hup : upd ab u p v = u.set j (rd u (j : Int) + d) := by unfold upd; rw [he]; simp
        have hset : ∀ i : Int, 0 ≤ i → rd (u.set j (rd u (j : Int) + d)) i = if i = (j : Int) then rd u (j : Int) + d else rd u i := by
          intro i hi0
          have := rd_set (g := u) (i := (j : Int)) (x := rd u (j : Int) + d) (j := i) (by omega) (by omega) hi0
          simpa using this
        have hu' : Unit1 ab (u.set j (rd u (j : Int) + d)) := by
          refine ⟨by simpa using hul, fun i i0 i1 => ?_⟩
          rw [hset i i0]
          split
          · omega
          · exact hu.2 i i0 i1
        have hout : outOf a ab (u.set j (rd u (j : Int) + d)) = outOf a ab u + (if p = a then 1 else 0) := by
          rw [outOf_set a ab u j hj (by omega), rd_nat (by omega : j < u.length)]
          rcases hj2 with ⟨e, ed⟩ | ⟨e, ed⟩
          · rw [e]; simp only
            by_cases hp : p = a
            · rw [if_pos hp, if_pos hp]; omega
            · rw [if_neg hp, if_neg hp, if_neg hva]
          · rw [e]; simp only
            rw [if_neg hva]
            by_cases hp : p = a
            · rw [if_pos hp, if_pos hp]; omega
            · rw [if_neg hp, if_neg hp]
        have ih := aug_spec hi f p (u.set j (rd u (j : Int) + d)) (by omega) hr.1 hr.2 t1 hu' (fun i hi2 r1 r2 => by
          rw [hset (i : Int) (by omega)]
          have hij : (i : Int) ≠ (j : Int) := by
            intro e
            have e2 : i = j := by omega
            subst e2
            rcases hj2 with ⟨e, _⟩ | ⟨e, _⟩ <;> rw [e] at r1 r2 <;> simp only at r1 r2 <;> omega
          rw [if_neg hij]
          exact hs i hi2 (by omega) (by omega))
        rw [hup]
        refine ⟨ih.1, ?_⟩
        rw [ih.2, hout]
        by_cases hp : p = a
        · rw [if_pos hp, if_pos hp]; omega
        · rw [if_neg hp, if_neg hp]; omega
      rcases h with ⟨e1, e2⟩ | ⟨e1, e2⟩
      · rw [Nat.zero_add] at e1
        exact key 1 (Or.inl rfl) e1 (Or.inl ⟨e2, rfl⟩)
      · rw [Nat.zero_add] at e1
        exact key (-1) (Or.inr rfl) e1 (Or.inr ⟨e2, rfl⟩)
theorem unit_zero (ab : List (Int × Int)) : Unit1 ab (List.replicate ab.length 0) := by
  refine ⟨by simp, fun i i0 i1 => ?_⟩
  rw [rd_replicate _ _ _ i0 i1]; omega
theorem unit_all {ab : List (Int × Int)} {u : List Int} (h : Unit1 ab u) : ∀ x ∈ u, -1 ≤ x ∧ x ≤ 1 := by
  intro x hx
  obtain ⟨j, hj, rfl⟩ := List.mem_iff_getElem.1 hx
  have h1 := h.1
  have := h.2 (j : Int) (by omega) (by omega)
  rwa [rd_nat hj] at this
/-- One way more. -/
theorem aug_fill {n : Nat} {ab : List (Int × Int)} {a b : Int} {u : List Int} (a0 : 0 ≤ a) (a1 : a < (n : Int)) (b0 : 0 ≤ b) (b1 : b < (n : Int)) (hab : b ≠ a) (hu : Unit1 ab u) (hb : 0 ≤ rd (searchV ab n u a) b) : (∃ rank, Inv (openB ab u) n a (searchV ab n u a) rank ∧ rank b < n) ∧ Unit1 ab (aug ab (searchV ab n u a) a n b u) ∧ outOf a ab (aug ab (searchV ab n u a) a n b u) = outOf a ab u + 1 := by
  obtain ⟨rank, hi⟩ := searchV_inv ab u a0 a1
  have hlow := hi.low b b0 b1 hb
  have := aug_spec hi n b u (by omega) b0 b1 hb hu (fun _ _ _ _ => rfl)
  rw [if_neg hab] at this
  exact ⟨⟨rank, hi, by omega⟩, this⟩
theorem fill_unit {n : Nat} {ab : List (Int × Int)} {a b : Int} (a0 : 0 ≤ a) (a1 : a < (n : Int)) (b0 : 0 ≤ b) (b1 : b < (n : Int)) (hab : b ≠ a) : ∀ (f : Nat) (u : List Int), Unit1 ab u → Unit1 ab (fill ab n a b f u)
  | 0, u, h => h
  | f + 1, u, h => by
    unfold fill
    by_cases hb : rd (searchV ab n u a) b < 0
    · rw [if_pos hb]; exact h
    · rw [if_neg hb]
      exact fill_unit a0 a1 b0 b1 hab f _ (aug_fill a0 a1 b0 b1 hab h (by omega)).2.1
/-- The numbers of the edges between those a walk comes to and the rest. -/
def cutOf (by_ : List Int) : Nat → List (Int × Int) → List Int
  | _, [] => []
  | i, e :: t => if decide (rd by_ e.1 < 0) ≠ decide (rd by_ e.2 < 0) then (i : Int) :: cutOf by_ (i + 1) t else cutOf by_ (i + 1) t
theorem cutOf_length (by_ : List Int) : ∀ (t : List (Int × Int)) (i : Nat), (cutOf by_ i t).length ≤ t.length
  | [], _ => by simp [cutOf]
  | e :: t, i => by
    have := cutOf_length by_ t (i + 1)
    unfold cutOf
    split <;> simp only [List.length_cons] <;> omega
/-- Numbers from i on, d of them. -/
def fromI : Nat → Nat → List Int
  | _, 0 => []
  | i, d + 1 => (i : Int) :: fromI (i + 1) d
theorem upto_from (n : Nat) : upto n = fromI 0 n := by
  have h : ∀ d i : Nat, fromI i d = (List.range' i d).map Int.ofNat := by
    intro d
    induction d with
    | zero => intro i; rfl
    | succ d ih => intro i; rw [fromI, ih (i + 1)]; rfl
  rw [h n 0, upto, List.range_eq_range']
theorem nearF_from (l : List (Int × Int × Int)) (v : Int) : ∀ (d i : Nat), nearF l v i d = (fromI i d).filter fun s => decide (costV l v s > 0)
  | 0, _ => rfl
  | d + 1, i => by
    unfold nearF fromI
    by_cases h : costV l v (i : Int) > 0
    · rw [if_pos h, List.filter_cons_of_pos (by simpa using h), nearF_from l v d (i + 1)]
    · rw [if_neg h, List.filter_cons_of_neg (by simpa using h), nearF_from l v d (i + 1)]
theorem nearF_upto (l : List (Int × Int × Int)) (v : Int) (n : Nat) : nearF l v 0 n = (upto n).filter fun s => decide (costV l v s > 0) := by rw [nearF_from, upto_from]
/-- Where there is an edge, there is a neighbour. -/
theorem edge_adj {l : List (Int × Int × Int)} {x y : Int} (hxy : x ≠ y) (h : 0 ≤ (edgeFrom x y 0 (l.map fun e => (e.1, e.2.1))).1) : ∃ c, Adj l x y c := by
  rcases edgeFrom_cases hxy (l.map fun e => (e.1, e.2.1)) 0 with e | ⟨j, hj, e⟩
  · rw [e] at h; simp at h
  · have hm : (l.map fun e => (e.1, e.2.1))[j] ∈ l.map fun e => (e.1, e.2.1) := List.getElem_mem _
    obtain ⟨z, hz, ez⟩ := List.mem_map.1 hm
    rcases e with ⟨_, e⟩ | ⟨_, e⟩
    · rw [e] at ez
      injection ez with e1 e2
      exact ⟨z.2.2, Or.inl (by rw [← e1, ← e2]; exact hz)⟩
    · rw [e] at ez
      injection ez with e1 e2
      exact ⟨z.2.2, Or.inr (by rw [← e1, ← e2]; exact hz)⟩
theorem adj_edge {x y c : Int} : ∀ (l : List (Int × Int × Int)) (i : Nat), Adj l x y c → 0 ≤ (edgeFrom x y i (l.map fun e => (e.1, e.2.1))).1
  | [], _, h => by simp [Adj] at h
  | e :: t, i, h => by
    simp only [List.map_cons, edgeFrom]
    split
    · simp
    · rename_i h1
      split
      · simp
      · rename_i h2
        refine adj_edge (c := c) t (i + 1) ?_
        rcases h with h | h
        · rcases List.mem_cons.1 h with h | h
          · exact absurd (by rw [← h]; exact ⟨rfl, rfl⟩) h1
          · exact Or.inl h
        · rcases List.mem_cons.1 h with h | h
          · exact absurd (by rw [← h]; exact ⟨rfl, rfl⟩) h2
          · exact Or.inr h
/-- What CutBetween answers. -/
def cutV (n : Int) (l : List (Int × Int × Int)) (ab : List (Int × Int)) (a b : Int) : List Int × Bool := if goodE n l && (inB 0 (wrap64 (n - 1)) a && inB 0 (wrap64 (n - 1)) b) && (a != b) then (cutOf (searchV ab n.toNat (flowV ab n.toNat a b) a) 0 ab, true) else ([], false)
theorem cutV_len (n : Int) (l : List (Int × Int × Int)) (ab : List (Int × Int)) (a b : Int) : (cutV n l ab a b).1.length ≤ ab.length := by
  unfold cutV
  split
  · exact cutOf_length (searchV ab n.toNat (flowV ab n.toNat a b) a) ab 0
  · simp
/-- What is good, opened. -/
theorem goodE_all {n : Int} {l : List (Int × Int × Int)} {a b : Int} (h : (goodE n l && (inB 0 (wrap64 (n - 1)) a && inB 0 (wrap64 (n - 1)) b) && (a != b)) = true) : ∃ m : Nat, n = (m : Int) ∧ m ≤ 12 ∧ In3 m l ∧ Once l ∧ l.length ≤ 40 ∧ 0 ≤ a ∧ a < (m : Int) ∧ 0 ≤ b ∧ b < (m : Int) ∧ b ≠ a := by
  simp only [Bool.and_eq_true, bne_iff_ne] at h
  obtain ⟨⟨h1, h2, h3⟩, h4⟩ := h
  obtain ⟨m, rfl, m1, m2, m3, m5⟩ := goodE_open h1
  rw [w64 (n := (m : Int) - 1) (by omega) (by omega), inB_iff] at h2 h3
  exact ⟨m, rfl, m2, m3, goodE_nodup h1, m5, by omega, by omega, by omega, by omega, fun e => h4 e.symm⟩
end Go.Proofs.Ythambdfgkfkcmaa.Q
