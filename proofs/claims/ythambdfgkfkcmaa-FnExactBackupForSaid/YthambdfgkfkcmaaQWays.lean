import Derived.Test.YthambdfgkfkcmaaQFlow
namespace Go.Proofs.Ythambdfgkfkcmaa.Q
open Go.RowKit Go.Proofs.YthambdfgkfkcmaaW.PrintWords
set_option linter.unusedVariables false
set_option linter.unusedSimpArgs false

/-! What is used is a flow: what comes to a spot goes on; so whoever goes along used edges comes to the end. -/
/-- Edges written the one way, and once. -/
def Apt (ab : List (Int × Int)) : Prop := (∀ e ∈ ab, e.1 < e.2) ∧ ab.Nodup
theorem edgeFrom_skip {x y : Int} : ∀ (t : List (Int × Int)) (i j : Nat) (hj : j < t.length), (∀ k (hk : k < t.length), k < j → ¬ (t[k].1 = x ∧ t[k].2 = y) ∧ ¬ (t[k].1 = y ∧ t[k].2 = x)) → edgeFrom x y i t = edgeFrom x y (i + j) (t.drop j)
  | e :: t, i, 0, _, _ => rfl
  | e :: t, i, j + 1, hj, h => by
    have h0 := h 0 (by simp) (by omega)
    simp only [List.getElem_cons_zero] at h0
    rw [edgeFrom, if_neg h0.1, if_neg h0.2, List.drop_succ_cons, edgeFrom_skip t (i + 1) j (by simpa using hj) (fun k hk hkj => by
      have := h (k + 1) (by simpa using hk) (by omega)
      simpa using this)]
    congr 1; omega
theorem edgeFrom_at {ab : List (Int × Int)} (ha : Apt ab) {j : Nat} (hj : j < ab.length) : edgeFrom ab[j].1 ab[j].2 0 ab = ((j : Int), 1) ∧ edgeFrom ab[j].2 ab[j].1 0 ab = ((j : Int), -1) := by
  have hlt := ha.1 _ (List.getElem_mem hj)
  have hno : ∀ k (hk : k < ab.length), k < j → ¬ (ab[k].1 = ab[j].1 ∧ ab[k].2 = ab[j].2) ∧ ¬ (ab[k].1 = ab[j].2 ∧ ab[k].2 = ab[j].1) := by
    intro k hk hkj
    have h2 := ha.1 _ (List.getElem_mem hk)
    refine ⟨fun e => ?_, fun e => by omega⟩
    exact List.pairwise_iff_getElem.1 ha.2 k j hk hj hkj (Prod.ext e.1 e.2)
  constructor
  · rw [edgeFrom_skip ab 0 j hj hno, List.drop_eq_getElem_cons hj, edgeFrom, if_pos ⟨rfl, rfl⟩, Nat.zero_add]
  · rw [edgeFrom_skip ab 0 j hj (fun k hk hkj => ⟨(hno k hk hkj).2, (hno k hk hkj).1⟩), List.drop_eq_getElem_cons hj, edgeFrom, if_neg (by omega), if_pos ⟨rfl, rfl⟩, Nat.zero_add]
/-- Along a way back from v to a, what goes out of a grows by one, what goes out of v falls by one; nothing goes into a. -/
def Into (a : Int) (ab : List (Int × Int)) (u : List Int) : Prop := ∀ (j : Nat) (hj : j < ab.length), ((ab[j]).1 = a → 0 ≤ rd u (j : Int)) ∧ ((ab[j]).2 = a → rd u (j : Int) ≤ 0)
theorem aug_net {n : Nat} {ab : List (Int × Int)} {a : Int} {by_ u0 : List Int} {rank : Int → Nat} (hi : Inv (openB ab u0) n a by_ rank) : ∀ (f : Nat) (v : Int) (u : List Int), rank v < f → 0 ≤ v → v < (n : Int) → 0 ≤ rd by_ v → u.length = ab.length → Into a ab u →
    Into a ab (aug ab by_ a f v u) ∧ ∀ x : Int, outOf x ab (aug ab by_ a f v u) = outOf x ab u + (if x = a then 1 else 0) - (if x = v then 1 else 0)
  | 0, _, _, hf, _, _, _, _, _ => absurd hf (by omega)
  | f + 1, v, u, hf, v0, v1, hv, hul, hin => by
    unfold aug
    by_cases hva : v = a
    · rw [if_pos hva]
      subst hva
      exact ⟨hin, fun x => by omega⟩
    · rw [if_neg hva]
      obtain ⟨t1, t2, t3⟩ := hi.tree v v0 v1 hva hv
      have hr := (hi.rng v v0 v1).resolve_left (by omega)
      generalize hpe : rd by_ v = p at t1 t2 t3 hr
      have hpv : p ≠ v := fun e => by rw [e] at t2; omega
      unfold openB at t3
      rw [Bool.and_eq_true, decide_eq_true_eq] at t3
      rcases edgeFrom_cases hpv ab 0 with h | ⟨j, hj, h⟩
      · rw [h] at t3; simp at t3
      · have key : ∀ d : Int, edgeFrom p v 0 ab = ((j : Int), d) → (ab[j] = (p, v) ∧ d = 1 ∨ ab[j] = (v, p) ∧ d = -1) → Into a ab (aug ab by_ a f p (upd ab u p v)) ∧ ∀ x : Int, outOf x ab (aug ab by_ a f p (upd ab u p v)) = outOf x ab u + (if x = a then 1 else 0) - (if x = v then 1 else 0) := by
          intro d he hj2
          have hup : upd ab u p v = u.set j (rd u (j : Int) + d) := by unfold upd; rw [he]; simp
          have hset : ∀ i : Int, 0 ≤ i → rd (u.set j (rd u (j : Int) + d)) i = if i = (j : Int) then rd u (j : Int) + d else rd u i := by
            intro i hi0
            have := rd_set (g := u) (i := (j : Int)) (x := rd u (j : Int) + d) (j := i) (by omega) (by omega) hi0
            simpa using this
          have hin' : Into a ab (u.set j (rd u (j : Int) + d)) := by
            intro i hi2
            rw [hset (i : Int) (by omega)]
            by_cases e : (i : Int) = (j : Int)
            · rw [if_pos e]
              have e2 : i = j := by omega
              subst e2
              have h0 := hin i hi2
              rcases hj2 with ⟨e3, e4⟩ | ⟨e3, e4⟩
              · rw [e3] at h0 ⊢
                simp only at h0 ⊢
                exact ⟨fun hh => by have := h0.1 hh; omega, fun hh => absurd hh hva⟩
              · rw [e3] at h0 ⊢
                simp only at h0 ⊢
                exact ⟨fun hh => absurd hh hva, fun hh => by have := h0.2 hh; omega⟩
            · rw [if_neg e]; exact hin i hi2
          have hout : ∀ x : Int, outOf x ab (u.set j (rd u (j : Int) + d)) = outOf x ab u + (if x = p then 1 else 0) - (if x = v then 1 else 0) := by
            intro x
            rw [outOf_set x ab u j hj (by omega), rd_nat (by omega : j < u.length)]
            have c1 : (p = x) = (x = p) := propext ⟨fun e => e.symm, fun e => e.symm⟩
            have c2 : (v = x) = (x = v) := propext ⟨fun e => e.symm, fun e => e.symm⟩
            rcases hj2 with ⟨e, ed⟩ | ⟨e, ed⟩ <;> rw [e] <;> simp only [c1, c2] <;> by_cases h1 : x = p <;> by_cases h2 : x = v <;> simp only [h1, h2, if_true, if_false] <;> first | omega | (split <;> omega) | (split <;> split <;> omega)
          rw [hup]
          obtain ⟨i1, i2⟩ := aug_net hi f p (u.set j (rd u (j : Int) + d)) (by omega) hr.1 hr.2 t1 (by simpa using hul) hin'
          refine ⟨i1, fun x => ?_⟩
          rw [i2 x, hout x]; omega
        rcases h with ⟨e1, e2⟩ | ⟨e1, e2⟩ <;> rw [Nat.zero_add] at e1
        · exact key 1 e1 (Or.inl ⟨e2, rfl⟩)
        · exact key (-1) e1 (Or.inr ⟨e2, rfl⟩)
/-- A flow of m from a to b. -/
structure Flow (ab : List (Int × Int)) (a b : Int) (m : Int) (u : List Int) : Prop where
  unit : Unit1 ab u
  into : Into a ab u
  net : ∀ x : Int, outOf x ab u = (if x = a then m else 0) - (if x = b then m else 0)
theorem flow_zero (ab : List (Int × Int)) (a b : Int) : Flow ab a b 0 (List.replicate ab.length 0) :=
  ⟨unit_zero ab, fun j hj => by
    have : rd (List.replicate ab.length (0 : Int)) (j : Int) = 0 := rd_replicate _ _ _ (by omega) (by omega)
    rw [this]; exact ⟨fun _ => Int.le_refl _, fun _ => Int.le_refl _⟩, fun x => by rw [outOf_zero]; split <;> split <;> rfl⟩
theorem fill_flow {n : Nat} {ab : List (Int × Int)} {a b : Int} (a0 : 0 ≤ a) (a1 : a < (n : Int)) (b0 : 0 ≤ b) (b1 : b < (n : Int)) (hab : b ≠ a) : ∀ (f : Nat) (m : Int) (u : List Int), 0 ≤ m → Flow ab a b m u → ∃ m', 0 ≤ m' ∧ Flow ab a b m' (fill ab n a b f u)
  | 0, m, u, hm, h => ⟨m, hm, h⟩
  | f + 1, m, u, hm, h => by
    unfold fill
    by_cases hb : rd (searchV ab n u a) b < 0
    · rw [if_pos hb]; exact ⟨m, hm, h⟩
    · rw [if_neg hb]
      obtain ⟨⟨rank, hi, hr⟩, h1, h2⟩ := aug_fill a0 a1 b0 b1 hab h.unit (by omega)
      obtain ⟨i1, i2⟩ := aug_net hi n b u hr b0 b1 (by omega) h.unit.1 h.into
      refine fill_flow a0 a1 b0 b1 hab f (m + 1) _ (by omega) ⟨h1, i1, fun x => ?_⟩
      rw [i2 x, h.net x]
      split <;> split <;> omega
/-- The next spot that a used edge leads to, and the edge used no more. -/
def nextIn (ab : List (Int × Int)) (u : List Int) (v : Int) : List Int → Int × List Int
  | [] => (-1, u)
  | k :: t => if 0 ≤ (edgeFrom v k 0 ab).1 ∧ rd u (edgeFrom v k 0 ab).1 = (edgeFrom v k 0 ab).2 then (k, u.set (edgeFrom v k 0 ab).1.toNat 0) else nextIn ab u v t
theorem nextIn_filter (ab : List (Int × Int)) (u : List Int) (v : Int) (c : Int → Bool) (h : ∀ k, 0 ≤ (edgeFrom v k 0 ab).1 → c k = true) : ∀ ks : List Int, nextIn ab u v (ks.filter c) = nextIn ab u v ks
  | [] => rfl
  | k :: t => by
    by_cases hc : c k = true
    · rw [List.filter_cons_of_pos hc, nextIn, nextIn, nextIn_filter ab u v c h t]
    · rw [List.filter_cons_of_neg hc, nextIn, if_neg fun hh => hc (h k hh.1), nextIn_filter ab u v c h t]
/-- How many edges are used. -/
def usedN (u : List Int) : Nat := u.countP fun x => decide (x ≠ 0)
theorem usedN_set : ∀ (u : List Int) (j : Nat) (hj : j < u.length), u[j] ≠ 0 → usedN (u.set j 0) < usedN u
  | x :: u, 0, _, h => by
    simp only [List.getElem_cons_zero] at h
    simp only [usedN, List.set_cons_zero, List.countP_cons]
    simp [h]
  | x :: u, j + 1, hj, h => by
    simp only [List.getElem_cons_succ] at h
    have := usedN_set u j (by simpa using hj) h
    simp only [usedN, List.set_cons_succ, List.countP_cons] at this ⊢
    omega
theorem nextIn_cases (ab : List (Int × Int)) (u : List Int) (v : Int) : ∀ ks : List Int, (nextIn ab u v ks = (-1, u) ∧ ∀ k ∈ ks, ¬ (0 ≤ (edgeFrom v k 0 ab).1 ∧ rd u (edgeFrom v k 0 ab).1 = (edgeFrom v k 0 ab).2)) ∨ ∃ k ∈ ks, nextIn ab u v ks = (k, u.set (edgeFrom v k 0 ab).1.toNat 0) ∧ 0 ≤ (edgeFrom v k 0 ab).1 ∧ rd u (edgeFrom v k 0 ab).1 = (edgeFrom v k 0 ab).2
  | [] => Or.inl ⟨rfl, fun k hk => by simp at hk⟩
  | k :: t => by
    unfold nextIn
    by_cases h : 0 ≤ (edgeFrom v k 0 ab).1 ∧ rd u (edgeFrom v k 0 ab).1 = (edgeFrom v k 0 ab).2
    · rw [if_pos h]
      exact Or.inr ⟨k, by simp, rfl, h⟩
    · rw [if_neg h]
      rcases nextIn_cases ab u v t with ⟨e, h2⟩ | ⟨k2, hk, h2⟩
      · refine Or.inl ⟨e, fun y hy => ?_⟩
        rcases List.mem_cons.1 hy with rfl | hy
        · exact h
        · exact h2 y hy
      · exact Or.inr ⟨k2, by simp [hk], h2⟩
theorem out_pos (v : Int) : ∀ (ab : List (Int × Int)) (u : List Int), 0 < outOf v ab u → ∃ (j : Nat) (hj : j < ab.length) (hu : j < u.length), ((ab[j]).1 = v ∧ 0 < u[j]) ∨ ((ab[j]).2 = v ∧ u[j] < 0)
  | e :: t, x :: u, h => by
    simp only [outOf] at h
    by_cases h1 : e.1 = v ∧ 0 < x
    · exact ⟨0, by simp, by simp, Or.inl (by simpa using h1)⟩
    · by_cases h2 : e.2 = v ∧ x < 0
      · exact ⟨0, by simp, by simp, Or.inr (by simpa using h2)⟩
      · have h3 : 0 < outOf v t u := by
          split at h
          · rename_i h4
            have : ¬ 0 < x := fun h5 => h1 ⟨h4, h5⟩
            omega
          · split at h
            · rename_i h4 h5
              have : ¬ x < 0 := fun h6 => h2 ⟨h5, h6⟩
              omega
            · omega
        obtain ⟨j, hj, hu, hh⟩ := out_pos v t u h3
        exact ⟨j + 1, by simpa using hj, by simpa using hu, by simpa using hh⟩
  | [], _, h => by simp [outOf] at h
  | _ :: _, [], h => by simp [outOf] at h
/-- Somebody out of whom more goes than comes has a used edge to go on. -/
theorem next_some {n : Nat} {ab : List (Int × Int)} (ha : Apt ab) (hw : Within n ab) {u : List Int} (hu : Unit1 ab u) {v : Int} (hv : 0 < outOf v ab u) : ∃ k, (0 ≤ k ∧ k < (n : Int)) ∧ 0 ≤ (edgeFrom v k 0 ab).1 ∧ rd u (edgeFrom v k 0 ab).1 = (edgeFrom v k 0 ab).2 := by
  obtain ⟨j, hj, hju, h⟩ := out_pos v ab u hv
  have hb := hu.2 (j : Int) (by omega) (by omega)
  rw [rd_nat hju] at hb
  have hat := edgeFrom_at ha hj
  have hwj := hw _ (List.getElem_mem hj)
  rcases h with ⟨h1, h2⟩ | ⟨h1, h2⟩
  · refine ⟨(ab[j]).2, ⟨hwj.2.2.1, hwj.2.2.2⟩, ?_⟩
    rw [← h1, hat.1]
    exact ⟨by simp, by rw [rd_nat hju]; omega⟩
  · refine ⟨(ab[j]).1, ⟨hwj.1, hwj.2.1⟩, ?_⟩
    rw [← h1, hat.2]
    exact ⟨by simp, by rw [rd_nat hju]; omega⟩
/-- On the way: m more ways, and this one stands at v. -/
structure Going (ab : List (Int × Int)) (a b : Int) (m : Int) (v : Int) (u : List Int) : Prop where
  unit : Unit1 ab u
  into : Into a ab u
  net : ∀ x : Int, outOf x ab u = (if x = a then m else 0) - (if x = b then m else 0) + (if x = v then 1 else 0) - (if x = b then 1 else 0)
/-- A used edge from v to k let go. -/
theorem let_go {ab : List (Int × Int)} {a : Int} {u : List Int} (hu : Unit1 ab u) (hi : Into a ab u) {v k : Int} (hvk : v ≠ k) (h0 : 0 ≤ (edgeFrom v k 0 ab).1) (h1 : rd u (edgeFrom v k 0 ab).1 = (edgeFrom v k 0 ab).2) :
    Unit1 ab (u.set (edgeFrom v k 0 ab).1.toNat 0) ∧ Into a ab (u.set (edgeFrom v k 0 ab).1.toNat 0) ∧ (∀ x : Int, outOf x ab (u.set (edgeFrom v k 0 ab).1.toNat 0) = outOf x ab u - (if x = v then 1 else 0) + (if x = k then 1 else 0)) ∧ usedN (u.set (edgeFrom v k 0 ab).1.toNat 0) < usedN u ∧ k ≠ a := by
  have hul := hu.1
  rcases edgeFrom_cases hvk ab 0 with e | ⟨j, hj, e⟩
  · rw [e] at h0; simp at h0
  · have key : ∀ d : Int, edgeFrom v k 0 ab = ((j : Int), d) → (ab[j] = (v, k) ∧ d = 1 ∨ ab[j] = (k, v) ∧ d = -1) → Unit1 ab (u.set (edgeFrom v k 0 ab).1.toNat 0) ∧ Into a ab (u.set (edgeFrom v k 0 ab).1.toNat 0) ∧ (∀ x : Int, outOf x ab (u.set (edgeFrom v k 0 ab).1.toNat 0) = outOf x ab u - (if x = v then 1 else 0) + (if x = k then 1 else 0)) ∧ usedN (u.set (edgeFrom v k 0 ab).1.toNat 0) < usedN u ∧ k ≠ a := by
      intro d he hd
      rw [he] at h1 ⊢
      simp only [Int.toNat_natCast] at h1 ⊢
      have hset : ∀ i : Int, 0 ≤ i → rd (u.set j 0) i = if i = (j : Int) then 0 else rd u i := by
        intro i hi0
        have := rd_set (g := u) (i := (j : Int)) (x := 0) (j := i) (by omega) (by omega) hi0
        simpa using this
      have huj : u[j]'(by omega) = d := by rw [← rd_nat (by omega)]; exact h1
      refine ⟨⟨by simpa using hul, fun i i0 i1 => ?_⟩, fun i hi2 => ?_, fun x => ?_, usedN_set u j (by omega) (by rw [huj]; rcases hd with ⟨_, h⟩ | ⟨_, h⟩ <;> omega), fun hka => ?_⟩
      · rw [hset i i0]
        split
        · omega
        · exact hu.2 i i0 i1
      · rw [hset (i : Int) (by omega)]
        split
        · exact ⟨fun _ => Int.le_refl _, fun _ => Int.le_refl _⟩
        · exact hi i hi2
      · rw [outOf_set x ab u j hj (by omega), huj]
        have c1 : (v = x) = (x = v) := propext ⟨fun e => e.symm, fun e => e.symm⟩
        have c2 : (k = x) = (x = k) := propext ⟨fun e => e.symm, fun e => e.symm⟩
        rcases hd with ⟨e, ed⟩ | ⟨e, ed⟩ <;> rw [e] <;> simp only [c1, c2] <;> by_cases h1 : x = v <;> by_cases h2 : x = k <;> simp only [h1, h2, if_true, if_false] <;> first | omega | (split <;> omega) | (split <;> split <;> omega)
      · have := hi j hj
        rw [h1] at this
        rcases hd with ⟨e, ed⟩ | ⟨e, ed⟩ <;> rw [e] at this <;> simp only at this
        · have := this.2 hka; omega
        · have := this.1 hka; omega
    rcases e with ⟨e1, e2⟩ | ⟨e1, e2⟩ <;> rw [Nat.zero_add] at e1
    · exact key 1 e1 (Or.inl ⟨e2, rfl⟩)
    · exact key (-1) e1 (Or.inr ⟨e2, rfl⟩)
theorem no_loop {ab : List (Int × Int)} (ha : ∀ e ∈ ab, e.1 < e.2) {v : Int} : ∀ i : Nat, edgeFrom v v i ab = (-1, 0) := by
  induction ab with
  | nil => intro i; rfl
  | cons e t ih =>
    intro i
    have h0 := ha e (by simp)
    unfold edgeFrom
    rw [if_neg (by omega), if_neg (by omega)]
    exact ih (fun y hy => ha y (by simp [hy])) (i + 1)
/-- From a spot on the way, the next one. -/
theorem going_next {n : Nat} {ab : List (Int × Int)} (ha : Apt ab) (hw : Within n ab) {a b m v : Int} {u : List Int} (h : Going ab a b m v u) (hm : 0 ≤ m) (hvb : v ≠ b) : ∃ k, (0 ≤ k ∧ k < (n : Int)) ∧ nextIn ab u v (upto n) = (k, u.set (edgeFrom v k 0 ab).1.toNat 0) ∧ Going ab a b m k (u.set (edgeFrom v k 0 ab).1.toNat 0) ∧ usedN (u.set (edgeFrom v k 0 ab).1.toNat 0) < usedN u ∧ 0 ≤ (edgeFrom v k 0 ab).1 := by
  have hpos : 0 < outOf v ab u := by
    rw [h.net v, if_pos rfl, if_neg hvb, if_neg hvb]
    split <;> omega
  obtain ⟨k0, hk0, hk1⟩ := next_some ha hw h.unit hpos
  rcases nextIn_cases ab u v (upto n) with ⟨_, e2⟩ | ⟨k, hk, e, h0, h1⟩
  · exact absurd hk1 (e2 k0 (upto_mem.2 hk0))
  · have hvk : v ≠ k := fun e => by rw [← e, no_loop ha.1] at h0; simp at h0
    obtain ⟨g1, g2, g3, g4, g5⟩ := let_go h.unit h.into hvk h0 h1
    refine ⟨k, upto_mem.1 hk, e, ⟨g1, g2, fun x => ?_⟩, g4, h0⟩
    rw [g3 x, h.net x]
    omega
/-- A way begins, if there is one more. -/
theorem flow_next {n : Nat} {ab : List (Int × Int)} (ha : Apt ab) (hw : Within n ab) {a b m : Int} {u : List Int} (h : Flow ab a b m u) (hm : 0 ≤ m) (hab : b ≠ a) : (nextIn ab u a (upto n) = (-1, u) ∧ m = 0) ∨ ∃ k, (0 ≤ k ∧ k < (n : Int)) ∧ nextIn ab u a (upto n) = (k, u.set (edgeFrom a k 0 ab).1.toNat 0) ∧ Going ab a b (m - 1) k (u.set (edgeFrom a k 0 ab).1.toNat 0) ∧ 1 ≤ m ∧ 0 ≤ (edgeFrom a k 0 ab).1 := by
  have hna := h.net a
  rw [if_pos rfl, if_neg (fun e => hab e.symm)] at hna
  rcases nextIn_cases ab u a (upto n) with ⟨e, e2⟩ | ⟨k, hk, e, h0, h1⟩
  · refine Or.inl ⟨e, ?_⟩
    rcases Int.lt_or_eq_of_le hm with hlt | heq
    · obtain ⟨k0, hk0, hk1⟩ := next_some ha hw h.unit (v := a) (by omega)
      exact absurd hk1 (e2 k0 (upto_mem.2 hk0))
    · exact heq.symm
  · have hak : a ≠ k := fun e => by rw [← e, no_loop ha.1] at h0; simp at h0
    obtain ⟨g1, g2, g3, g4, g5⟩ := let_go h.unit h.into hak h0 h1
    have hge : ∀ (ab : List (Int × Int)) (u : List Int), Into a ab u → 0 ≤ outOf a ab u := by
      intro ab
      induction ab with
      | nil => intro u _; simp [outOf]
      | cons e t ih =>
        intro u hin
        cases u with
        | nil => simp [outOf]
        | cons x u =>
          have h1 := hin 0 (by simp)
          simp only [List.getElem_cons_zero, rd, Int.toNat_natCast, List.getD_cons_zero] at h1
          have h2 := ih u (fun j hj => by
            have := hin (j + 1) (by simpa using hj)
            simpa [rd] using this)
          simp only [outOf]
          split
          · rename_i h3; have := h1.1 h3; omega
          · split
            · rename_i _ h3; have := h1.2 h3; omega
            · omega
    have hg := hge ab _ g2
    have hg3 := g3 a
    rw [if_pos rfl, if_neg hak, hna] at hg3
    refine Or.inr ⟨k, upto_mem.1 hk, e, ⟨g1, g2, fun x => ?_⟩, by omega, h0⟩
    rw [g3 x, h.net x]
    by_cases c1 : x = a
    · by_cases c2 : x = b
      · exact absurd (c2.symm.trans c1) hab
      · simp only [c1, c2, if_true, if_false] at *
        rw [if_neg (fun e => hab e.symm)]; omega
    · by_cases c2 : x = b
      · simp only [c1, c2, if_true, if_false] at *
        rw [if_neg hab, if_neg hab]; omega
      · simp only [c1, c2, if_false]; omega
/-- A way to its end. -/
def walkV (ab : List (Int × Int)) (n : Nat) (b : Int) : Nat → List Int → Int → List Int → List Int × List Int
  | 0, w, _, u => (w, u)
  | f + 1, w, v, u => if v = b then (w, u) else walkV ab n b f (w ++ [(nextIn ab u v (upto n)).1]) (nextIn ab u v (upto n)).1 (nextIn ab u v (upto n)).2
theorem walkV_flow {n : Nat} {ab : List (Int × Int)} (ha : Apt ab) (hw : Within n ab) {a b m : Int} (hm : 0 ≤ m) : ∀ (f : Nat) (w : List Int) (v : Int) (u : List Int), Going ab a b m v u → usedN u < f → Flow ab a b m (walkV ab n b f w v u).2 ∧ (walkV ab n b f w v u).1.length ≤ w.length + f
  | 0, _, _, _, _, h => absurd h (by omega)
  | f + 1, w, v, u, h, hf => by
    unfold walkV
    by_cases hvb : v = b
    · rw [if_pos hvb]
      refine ⟨⟨h.unit, h.into, fun x => ?_⟩, by simp only; omega⟩
      rw [h.net x, hvb]; omega
    · rw [if_neg hvb]
      obtain ⟨k, hk, e, h1, h2, _⟩ := going_next ha hw h hm hvb
      rw [e]
      have := walkV_flow ha hw hm f (w ++ [k]) k _ h1 (by omega)
      refine ⟨this.1, Nat.le_trans this.2 ?_⟩
      simp only [List.length_append, List.length_cons, List.length_nil]; omega
/-- All ways. -/
def waysF (ab : List (Int × Int)) (n : Nat) (a b : Int) : Nat → List (List Int) → List Int → List (List Int)
  | 0, out, _ => out
  | f + 1, out, u => if (nextIn ab u a (upto n)).1 < 0 then out else waysF ab n a b f (out ++ [(walkV ab n b (ab.length + 1) [a, (nextIn ab u a (upto n)).1] (nextIn ab u a (upto n)).1 (nextIn ab u a (upto n)).2).1]) (walkV ab n b (ab.length + 1) [a, (nextIn ab u a (upto n)).1] (nextIn ab u a (upto n)).1 (nextIn ab u a (upto n)).2).2
/-- The sizes of rows, and rows that are marked one behind another. -/
def sizeSS : List (List Int) → Nat
  | [] => 0
  | x :: t => x.length + sizeSS t
theorem sizeSS_app : ∀ (l : List (List Int)) (x : List Int), sizeSS (l ++ [x]) = sizeSS l + x.length
  | [], x => by simp [sizeSS]
  | y :: t, x => by simp only [List.cons_append, sizeSS, sizeSS_app t x]; omega
theorem waysF_size {n : Nat} {ab : List (Int × Int)} (ha : Apt ab) (hw : Within n ab) {a b : Int} (hab : b ≠ a) : ∀ (f : Nat) (m : Int) (out : List (List Int)) (u : List Int), 0 ≤ m → Flow ab a b m u → (waysF ab n a b f out u).length ≤ out.length + f ∧ sizeSS (waysF ab n a b f out u) ≤ sizeSS out + f * (ab.length + 3)
  | 0, _, out, _, _, _ => ⟨Nat.le_refl _, by simp [waysF]⟩
  | f + 1, m, out, u, hm, h => by
    unfold waysF
    rcases flow_next ha hw h hm hab with ⟨e, _⟩ | ⟨k, hk, e, hg, hm1, _⟩
    · rw [e]
      simp only [show ((-1 : Int) < 0) = True from eq_true (by omega), if_true]
      exact ⟨by omega, Nat.le_add_right _ _⟩
    · rw [e]
      simp only [show (k < 0) = False from eq_false (by omega), if_false]
      have hus : usedN (u.set (edgeFrom a k 0 ab).1.toNat 0) < ab.length + 1 := by
        have h1 := hg.unit.1
        have : usedN (u.set (edgeFrom a k 0 ab).1.toNat 0) ≤ (u.set (edgeFrom a k 0 ab).1.toNat 0).length := List.countP_le_length
        omega
      obtain ⟨h1, h2⟩ := walkV_flow ha hw (by omega) (ab.length + 1) [a, k] k _ hg hus
      have ih := waysF_size ha hw hab f (m - 1) (out ++ [(walkV ab n b (ab.length + 1) [a, k] k (u.set (edgeFrom a k 0 ab).1.toNat 0)).1]) _ (by omega) h1
      rw [sizeSS_app] at ih
      simp only [List.length_append, List.length_cons, List.length_nil] at ih h2
      refine ⟨by omega, Nat.le_trans ih.2 ?_⟩
      rw [Nat.succ_mul]; omega
/-- What WaysApart answers. -/
def waysV (n : Int) (l : List (Int × Int × Int)) (ab : List (Int × Int)) (a b : Int) : List (List Int) × Bool := if goodE n l && (inB 0 (wrap64 (n - 1)) a && inB 0 (wrap64 (n - 1)) b) && (a != b) then (waysF ab n.toNat a b (ab.length + 1) [] (flowV ab n.toNat a b), true) else ([], false)
theorem apt_of {n : Nat} {l : List (Int × Int × Int)} (h : In3 n l) (ho : Once l) : Apt (l.map fun e => (e.1, e.2.1)) ∧ Within n (l.map fun e => (e.1, e.2.1)) := by
  refine ⟨⟨fun e he => ?_, ho⟩, fun e he => ?_⟩ <;> obtain ⟨z, hz, rfl⟩ := List.mem_map.1 he <;> have := h z hz <;> simp only <;> omega
theorem flowV_flow {n : Nat} {ab : List (Int × Int)} {a b : Int} (a0 : 0 ≤ a) (a1 : a < (n : Int)) (b0 : 0 ≤ b) (b1 : b < (n : Int)) (hab : b ≠ a) : ∃ m, (0 ≤ m ∧ m ≤ (ab.length : Int)) ∧ Flow ab a b m (flowV ab n a b) := by
  obtain ⟨m, hm, h⟩ := fill_flow a0 a1 b0 b1 hab (ab.length + 1) 0 _ (Int.le_refl _) (flow_zero ab a b)
  refine ⟨m, ⟨hm, ?_⟩, h⟩
  have h1 := outOf_le a ab (flowV ab n a b) (unit_all h.unit)
  have h2 := h.net a
  rw [if_pos rfl, if_neg (fun e => hab e.symm)] at h2
  unfold flowV at h1
  omega
theorem waysV_size (n : Int) (l : List (Int × Int × Int)) (ab : List (Int × Int)) (he : ab = l.map fun e => (e.1, e.2.1)) (a b : Int) : (waysV n l ab a b).1.length ≤ 41 ∧ sizeSS (waysV n l ab a b).1 ≤ 2000 := by
  unfold waysV
  split
  · rename_i g
    obtain ⟨m, rfl, m1, m2, m3, m4, a0, a1, b0, b1, hba⟩ := goodE_all g
    have hap := apt_of m2 m3
    rw [← he] at hap
    obtain ⟨q, hq, hf⟩ := flowV_flow (ab := ab) a0 a1 b0 b1 hba
    have := waysF_size hap.1 hap.2 hba (ab.length + 1) q [] _ hq.1 hf
    have hl : ab.length ≤ 40 := by rw [he]; simpa using m4
    simp only [Int.toNat_natCast, List.length_nil, sizeSS, Nat.zero_add] at this ⊢
    refine ⟨by omega, Nat.le_trans this.2 ?_⟩
    exact Nat.le_trans (Nat.mul_le_mul (by omega) (by omega)) (by decide : 41 * 43 ≤ 2000)
  · simp [sizeSS]
theorem sizeSS_at : ∀ (l : List (List Int)) (i : Nat), (l.getD i []).length ≤ sizeSS l
  | [], i => by simp
  | x :: t, 0 => by simp [sizeSS]
  | x :: t, i + 1 => by
    have := sizeSS_at t i
    simp only [List.getD_cons_succ, sizeSS]; omega
def backOf (w : List (List Int) × Bool) : List Int × List Int × Bool := if w.2 && decide (2 ≤ w.1.length) then (w.1.getD 0 [], w.1.getD 1 [], true) else ([], [], false)
def backV (n : Int) (l : List (Int × Int × Int)) (ab : List (Int × Int)) (a b : Int) : List Int × List Int × Bool := backOf (waysV n l ab a b)
theorem backV_size (n : Int) (l : List (Int × Int × Int)) (ab : List (Int × Int)) (he : ab = l.map fun e => (e.1, e.2.1)) (a b : Int) : (backV n l ab a b).1.length ≤ 2000 ∧ (backV n l ab a b).2.1.length ≤ 2000 := by
  have h := (waysV_size n l ab he a b).2
  unfold backV backOf
  split
  · exact ⟨Nat.le_trans (sizeSS_at _ 0) h, Nat.le_trans (sizeSS_at _ 1) h⟩
  · simp
end Go.Proofs.Ythambdfgkfkcmaa.Q
