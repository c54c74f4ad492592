import Derived.Test.YtpohlcjkabojcaaQGraph
namespace Go.Proofs.Ytpohlcjkabojcaa.Q
open Go.RowKit Go.Proofs.YtpohlcjkabojcaaW.PrintWords
set_option linter.unusedVariables false
set_option linter.unusedSimpArgs false

/-! Least costs from all spots to one. -/
/-- One edge makes the numbers o less, from the numbers g. -/
def rlx (g o : List Int) (e : Int × Int × Int) : List Int :=
  (o.set e.1.toNat (min (rd o e.1) (rd g e.2.1 + e.2.2))).set e.2.1.toNat (min (rd (o.set e.1.toNat (min (rd o e.1) (rd g e.2.1 + e.2.2))) e.2.1) (rd g e.1 + e.2.2))
def rlxs (g : List Int) (t : List (Int × Int × Int)) (o : List Int) : List Int := t.foldl (rlx g) o
def relaxV (l : List (Int × Int × Int)) (g : List Int) : List Int := rlxs g l g
def farsN (l : List (Int × Int × Int)) : Nat → List Int → List Int
  | 0, g => g
  | k + 1, g => farsN l k (relaxV l g)
def far0 (n : Nat) (b : Int) : List Int := (List.replicate n (100000 : Int)).set b.toNat 0
def farsV (n : Nat) (l : List (Int × Int × Int)) (b : Int) : List Int := farsN l n (far0 n b)
/-- The edges lie within n spots. -/
def In3 (n : Nat) (l : List (Int × Int × Int)) : Prop := ∀ e ∈ l, 0 ≤ e.1 ∧ e.1 < e.2.1 ∧ e.2.1 < (n : Int) ∧ 1 ≤ e.2.2 ∧ e.2.2 ≤ 100
def Adj (l : List (Int × Int × Int)) (v u c : Int) : Prop := (v, u, c) ∈ l ∨ (u, v, c) ∈ l
theorem adj_in {n : Nat} {l : List (Int × Int × Int)} (h : In3 n l) {v u c : Int} (ha : Adj l v u c) : (0 ≤ v ∧ v < (n : Int)) ∧ (0 ≤ u ∧ u < (n : Int)) ∧ 1 ≤ c ∧ c ≤ 100 ∧ v ≠ u := by
  rcases ha with ha | ha
  · have := h _ ha; simp only at this; omega
  · have := h _ ha; simp only at this; omega
theorem rlx_length (g o : List Int) (e : Int × Int × Int) : (rlx g o e).length = o.length := by simp [rlx]
theorem rlx_rd {g o : List Int} {e : Int × Int × Int} {n : Nat} (hl : o.length = n) (h : 0 ≤ e.1 ∧ e.1 < e.2.1 ∧ e.2.1 < (n : Int)) {v : Int} (hv : 0 ≤ v) : rd (rlx g o e) v = if v = e.1 then min (rd o v) (rd g e.2.1 + e.2.2) else if v = e.2.1 then min (rd o v) (rd g e.1 + e.2.2) else rd o v := by
  obtain ⟨h0, h1, h2⟩ := h
  unfold rlx
  rw [rd_set (by omega) (by simp; omega) hv, rd_set h0 (by omega) hv, rd_set h0 (by omega) (by omega)]
  by_cases e2 : v = e.2.1
  · have e1 : ¬ v = e.1 := by omega
    have e3 : ¬ e.2.1 = e.1 := by omega
    rw [if_pos e2, if_neg e1, if_pos e2, if_neg e3, e2]
  · rw [if_neg e2]
    by_cases e1 : v = e.1
    · rw [if_pos e1, if_pos e1, e1]
    · rw [if_neg e1, if_neg e1, if_neg e2]
theorem rlxs_spec {n : Nat} (g : List Int) : ∀ (t : List (Int × Int × Int)), In3 n t → ∀ o : List Int, o.length = n → (rlxs g t o).length = n ∧ (∀ v, 0 ≤ v → rd (rlxs g t o) v ≤ rd o v) ∧ (∀ v u c, Adj t v u c → rd (rlxs g t o) v ≤ rd g u + c) ∧ (∀ v, 0 ≤ v → rd (rlxs g t o) v = rd o v ∨ ∃ u c, Adj t v u c ∧ rd (rlxs g t o) v = rd g u + c)
  | [], _, o, ho => ⟨ho, fun v _ => Int.le_refl _, fun v u c h => by simp [Adj] at h, fun v _ => .inl rfl⟩
  | e :: t, ht, o, ho => by
    obtain ⟨a, b, c⟩ := e
    have he := ht (a, b, c) (by simp)
    simp only at he
    have hr : ∀ {v : Int}, 0 ≤ v → rd (rlx g o (a, b, c)) v = if v = a then min (rd o v) (rd g b + c) else if v = b then min (rd o v) (rd g a + c) else rd o v := fun hv => rlx_rd (e := (a, b, c)) ho ⟨he.1, he.2.1, he.2.2.1⟩ hv
    obtain ⟨i1, i2, i3, i4⟩ := rlxs_spec g t (fun x hx => ht x (by simp [hx])) (rlx g o (a, b, c)) (by rw [rlx_length]; exact ho)
    show (rlxs g t (rlx g o (a, b, c))).length = n ∧ (∀ v, 0 ≤ v → rd (rlxs g t (rlx g o (a, b, c))) v ≤ rd o v) ∧ (∀ v u w, Adj ((a, b, c) :: t) v u w → rd (rlxs g t (rlx g o (a, b, c))) v ≤ rd g u + w) ∧ (∀ v, 0 ≤ v → rd (rlxs g t (rlx g o (a, b, c))) v = rd o v ∨ ∃ u w, Adj ((a, b, c) :: t) v u w ∧ rd (rlxs g t (rlx g o (a, b, c))) v = rd g u + w)
    refine ⟨i1, fun v hv => ?_, fun v u w hw => ?_, fun v hv => ?_⟩
    · have := i2 v hv
      rw [hr hv] at this
      split at this
      · omega
      · split at this <;> omega
    · rcases hw with hw | hw
      · rcases List.mem_cons.1 hw with hw | hw
        · injection hw with h1 h2; injection h2 with h2 h3; subst h1; subst h2; subst h3
          have := i2 v he.1
          rw [hr he.1, if_pos rfl] at this
          omega
        · exact i3 v u w (.inl hw)
      · rcases List.mem_cons.1 hw with hw | hw
        · injection hw with h1 h2; injection h2 with h2 h3; subst h1; subst h2; subst h3
          have := i2 v (by omega)
          rw [hr (by omega), if_neg (by omega), if_pos rfl] at this
          omega
        · exact i3 v u w (.inr hw)
    · rcases i4 v hv with h | ⟨u, w, h, h2⟩
      · rw [hr hv] at h
        by_cases e1 : v = a
        · rw [if_pos e1] at h
          rcases Int.le_total (rd o v) (rd g b + c) with h3 | h3
          · left; omega
          · right; exact ⟨b, c, .inl (by rw [e1]; simp), by omega⟩
        · rw [if_neg e1] at h
          by_cases e2 : v = b
          · rw [if_pos e2] at h
            rcases Int.le_total (rd o v) (rd g a + c) with h3 | h3
            · left; omega
            · right; exact ⟨a, c, .inr (by rw [e2]; simp), by omega⟩
          · rw [if_neg e2] at h
            exact .inl h
      · right
        refine ⟨u, w, ?_, h2⟩
        rcases h with h | h
        · exact .inl (by simp [h])
        · exact .inr (by simp [h])
section
variable {n : Nat} {l : List (Int × Int × Int)} {b : Int}
theorem relaxV_length (hl : In3 n l) {g : List Int} (hg : g.length = n) : (relaxV l g).length = n := (rlxs_spec g l hl g hg).1
theorem relaxV_le (hl : In3 n l) {g : List Int} (hg : g.length = n) {v : Int} (hv : 0 ≤ v) : rd (relaxV l g) v ≤ rd g v := (rlxs_spec g l hl g hg).2.1 v hv
theorem relaxV_adj (hl : In3 n l) {g : List Int} (hg : g.length = n) {v u c : Int} (h : Adj l v u c) : rd (relaxV l g) v ≤ rd g u + c := (rlxs_spec g l hl g hg).2.2.1 v u c h
theorem relaxV_or (hl : In3 n l) {g : List Int} (hg : g.length = n) {v : Int} (hv : 0 ≤ v) : rd (relaxV l g) v = rd g v ∨ ∃ u c, Adj l v u c ∧ rd (relaxV l g) v = rd g u + c := (rlxs_spec g l hl g hg).2.2.2 v hv
/-- What holds of the numbers after k rounds. -/
structure Fars (n : Nat) (l : List (Int × Int × Int)) (b : Int) (g : List Int) : Prop where
  len : g.length = n
  zero : rd g b = 0
  low : ∀ v : Int, 0 ≤ v → v < (n : Int) → 0 ≤ rd g v ∧ rd g v ≤ 100000
  next : ∀ v : Int, 0 ≤ v → v < (n : Int) → v = b ∨ rd g v = 100000 ∨ ∃ u c, Adj l v u c ∧ rd g u + c ≤ rd g v
theorem fars_relax (hl : In3 n l) (b0 : 0 ≤ b) (b1 : b < (n : Int)) {g : List Int} (h : Fars n l b g) : Fars n l b (relaxV l g) := by
  refine ⟨relaxV_length hl h.len, ?_, fun v v0 v1 => ?_, fun v v0 v1 => ?_⟩
  · have h1 := relaxV_le hl h.len b0
    rcases relaxV_or hl h.len b0 with h2 | ⟨u, c, h2, h3⟩
    · rw [h2, h.zero]
    · have h4 := adj_in hl h2
      have h5 := h.low u h4.2.1.1 h4.2.1.2
      rw [h.zero] at h1
      omega
  · have h1 := relaxV_le hl h.len v0
    have h2 := h.low v v0 v1
    rcases relaxV_or hl h.len v0 with h3 | ⟨u, c, h3, h4⟩
    · omega
    · have h5 := adj_in hl h3
      have h6 := h.low u h5.2.1.1 h5.2.1.2
      omega
  · rcases relaxV_or hl h.len v0 with h2 | ⟨u, c, h2, h3⟩
    · rcases h.next v v0 v1 with h4 | h4 | ⟨u, c, h4, h5⟩
      · exact .inl h4
      · exact .inr (.inl (by rw [h2, h4]))
      · have h6 := relaxV_le hl h.len (adj_in hl h4).2.1.1
        exact .inr (.inr ⟨u, c, h4, by omega⟩)
    · have h6 := relaxV_le hl h.len (adj_in hl h2).2.1.1
      exact .inr (.inr ⟨u, c, h2, by omega⟩)
theorem fars_n (hl : In3 n l) (b0 : 0 ≤ b) (b1 : b < (n : Int)) : ∀ (k : Nat) {g : List Int}, Fars n l b g → Fars n l b (farsN l k g)
  | 0, _, h => h
  | k + 1, _, h => fars_n hl b0 b1 k (fars_relax hl b0 b1 h)
theorem rd_replicate (n : Nat) (x v : Int) (v0 : 0 ≤ v) (v1 : v < (n : Int)) : rd (List.replicate n x) v = x := by
  unfold rd
  rw [List.getD_eq_getElem?_getD, List.getElem?_replicate, if_pos (by omega)]
  rfl
theorem rd_far0 (b0 : 0 ≤ b) (b1 : b < (n : Int)) {v : Int} (v0 : 0 ≤ v) (v1 : v < (n : Int)) : rd (far0 n b) v = if v = b then 0 else 100000 := by
  unfold far0
  rw [rd_set b0 (by simpa using b1) v0, rd_replicate n _ v v0 v1]
theorem fars_start (b0 : 0 ≤ b) (b1 : b < (n : Int)) : Fars n l b (far0 n b) := by
  refine ⟨by simp [far0], by rw [rd_far0 b0 b1 b0 b1, if_pos rfl], fun v v0 v1 => ?_, fun v v0 v1 => ?_⟩
  · rw [rd_far0 b0 b1 v0 v1]; split <;> omega
  · rw [rd_far0 b0 b1 v0 v1]
    by_cases e : v = b
    · exact .inl e
    · exact .inr (.inl (if_neg e))
/-- After k rounds a number is Far or at most 100 k. -/
theorem far_small (hl : In3 n l) {g : List Int} (h : Fars n l b g) (b0 : 0 ≤ b) (b1 : b < (n : Int)) {m : Int} (m0 : 0 ≤ m) (hm : m ≤ 99900) (hs : ∀ v : Int, 0 ≤ v → v < (n : Int) → rd g v = 100000 ∨ rd g v ≤ m) : ∀ v : Int, 0 ≤ v → v < (n : Int) → rd (relaxV l g) v = 100000 ∨ rd (relaxV l g) v ≤ m + 100 := by
  intro v v0 v1
  have h1 := relaxV_le hl h.len v0
  have h2 := h.low v v0 v1
  rcases relaxV_or hl h.len v0 with h3 | ⟨u, c, h3, h4⟩
  · rcases hs v v0 v1 with h5 | h5
    · left; omega
    · right; omega
  · have h5 := adj_in hl h3
    rcases hs u h5.2.1.1 h5.2.1.2 with h6 | h6 <;> omega
theorem far_small_n (hl : In3 n l) (b0 : 0 ≤ b) (b1 : b < (n : Int)) : ∀ (k : Nat) {g : List Int} (m : Int), 0 ≤ m → m + 100 * k ≤ 99900 → Fars n l b g → (∀ v : Int, 0 ≤ v → v < (n : Int) → rd g v = 100000 ∨ rd g v ≤ m) → ∀ v : Int, 0 ≤ v → v < (n : Int) → rd (farsN l k g) v = 100000 ∨ rd (farsN l k g) v ≤ m + 100 * k
  | 0, g, m, _, _, _, hs => fun v v0 v1 => by simpa [farsN] using hs v v0 v1
  | k + 1, g, m, m0, hm, h, hs => fun v v0 v1 => by
    have := far_small_n hl b0 b1 k (m + 100) (by omega) (by omega) (fars_relax hl b0 b1 h) (far_small hl h b0 b1 m0 (by omega) hs) v v0 v1
    simp only [farsN]
    omega
theorem sum_le : ∀ (a c : List Int), a.length = c.length → (∀ j : Nat, j < a.length → a.getD j 0 ≤ c.getD j 0) → a.sum ≤ c.sum ∧ (a ≠ c → a.sum < c.sum)
  | [], [], _, _ => by simp
  | x :: s, y :: t, hl, h => by
    have h1 := h 0 (by simp)
    obtain ⟨h2, h3⟩ := sum_le s t (by simpa using hl) (fun j hj => by simpa using h (j + 1) (by simpa using hj))
    simp only [List.getD_cons_zero] at h1
    simp only [List.sum_cons]
    refine ⟨by omega, fun hne => ?_⟩
    by_cases e : x = y
    · subst e
      have := h3 (fun e2 => hne (by rw [e2]))
      omega
    · omega
theorem sum_nonneg : ∀ a : List Int, (∀ x ∈ a, 0 ≤ x) → 0 ≤ a.sum
  | [], _ => by simp
  | x :: t, h => by
    have := h x (by simp)
    have := sum_nonneg t (fun y hy => h y (by simp [hy]))
    simp only [List.sum_cons]; omega
theorem fars_sum {g : List Int} (h : Fars n l b g) : 0 ≤ g.sum := by
  refine sum_nonneg g fun x hx => ?_
  obtain ⟨j, hj, rfl⟩ := List.getElem_of_mem hx
  have := h.low (j : Int) (by omega) (by have := h.len; omega)
  rw [rd_get (by omega) (by omega)] at this
  simpa using this.1
theorem stable_some (hl : In3 n l) (b0 : 0 ≤ b) (b1 : b < (n : Int)) : ∀ (T : Nat) {g : List Int}, Fars n l b g → g.sum ≤ (T : Int) → ∃ K, relaxV l (farsN l K g) = farsN l K g
  | T, g, h, hT => by
    by_cases e : relaxV l g = g
    · exact ⟨0, e⟩
    · have hlt := (sum_le (relaxV l g) g (by rw [relaxV_length hl h.len, h.len]) (fun j hj => by simpa [rd] using relaxV_le hl h.len (v := (j : Int)) (by omega))).2 e
      have h0 := fars_sum (fars_relax hl b0 b1 h)
      match T, hT with
      | 0, hT => exact absurd hlt (by have : ((0 : Nat) : Int) = 0 := rfl; omega)
      | T + 1, hT =>
        obtain ⟨K, hK⟩ := stable_some hl b0 b1 T (fars_relax hl b0 b1 h) (by omega)
        exact ⟨K + 1, hK⟩
/-- m lies below, and is a stable one: a round makes one more right. -/
theorem fars_grow (hl : In3 n l) (b0 : 0 ≤ b) (b1 : b < (n : Int)) {m g : List Int} (hm : Fars n l b m) (hs : relaxV l m = m) (hg : Fars n l b g) (hle : ∀ v : Int, 0 ≤ v → v < (n : Int) → rd m v ≤ rd g v) :
    (∀ v : Int, 0 ≤ v → v < (n : Int) → rd m v ≤ rd (relaxV l g) v) ∧ (right n m g < n → right n m g < right n m (relaxV l g)) := by
  have hbel : ∀ v : Int, 0 ≤ v → v < (n : Int) → rd m v ≤ rd (relaxV l g) v := by
    intro v v0 v1
    rcases relaxV_or hl hg.len v0 with h | ⟨u, c, h, h2⟩
    · rw [h]; exact hle v v0 v1
    · have h3 := relaxV_adj hl hm.len h
      rw [hs] at h3
      have h4 := adj_in hl h
      have := hle u h4.2.1.1 h4.2.1.2
      omega
  refine ⟨hbel, fun hlt => ?_⟩
  have hw : ∃ v : Int, (0 ≤ v ∧ v < (n : Int)) ∧ rd g v ≠ rd m v := by
    refine Classical.byContradiction fun hno => ?_
    have : right n m g = n := by
      unfold right
      rw [List.countP_eq_length.2]
      · simp
      · intro x hx
        refine decide_eq_true (Classical.byContradiction fun hne => hno ⟨(x : Int), ⟨by omega, ?_⟩, hne⟩)
        have := List.mem_range.1 hx
        omega
    omega
  have key : ∀ (k : Nat) (v : Int), 0 ≤ v → v < (n : Int) → rd g v ≠ rd m v → rd m v ≤ (k : Int) → ∃ w : Int, (0 ≤ w ∧ w < (n : Int)) ∧ rd g w ≠ rd m w ∧ rd (relaxV l g) w = rd m w := by
    intro k
    induction k with
    | zero =>
      intro v v0 v1 hne hk
      have h1 := hle v v0 v1
      have h2 := hg.low v v0 v1
      rcases hm.next v v0 v1 with h3 | h3 | ⟨u, c, h3, h4⟩
      · subst h3; rw [hg.zero, hm.zero] at hne; exact absurd rfl hne
      · omega
      · have h5 := adj_in hl h3
        have h6 := hm.low u h5.2.1.1 h5.2.1.2
        have : ((0 : Nat) : Int) = 0 := rfl
        omega
    | succ k ih =>
      intro v v0 v1 hne hk
      have h1 := hle v v0 v1
      have h2 := hg.low v v0 v1
      rcases hm.next v v0 v1 with h3 | h3 | ⟨u, c, h3, h4⟩
      · subst h3; rw [hg.zero, hm.zero] at hne; exact absurd rfl hne
      · omega
      · have h5 := adj_in hl h3
        by_cases h6 : rd g u = rd m u
        · refine ⟨v, ⟨v0, v1⟩, hne, ?_⟩
          have h7 := relaxV_adj hl hg.len h3
          have h8 := hbel v v0 v1
          omega
        · exact ih u h5.2.1.1 h5.2.1.2 h6 (by omega)
  obtain ⟨v, ⟨v0, v1⟩, hne⟩ := hw
  have hmv := hm.low v v0 v1
  obtain ⟨w, ⟨w0, w1⟩, h1, h2⟩ := key (rd m v).toNat v v0 v1 hne (by omega)
  unfold right
  refine countP_lt (y := w.toNat) (fun x hx hp => ?_) (by simp; omega) (decide_eq_false ?_) (decide_eq_true ?_)
  · have hx2 := List.mem_range.1 hx
    have h3 := of_decide_eq_true hp
    have h4 := hbel (x : Int) (by omega) (by omega)
    have h5 := relaxV_le hl hg.len (v := (x : Int)) (by omega)
    exact decide_eq_true (by omega)
  · rw [show ((w.toNat : Nat) : Int) = w by omega]; exact h1
  · rw [show ((w.toNat : Nat) : Int) = w by omega]; exact h2
theorem fars_right (hl : In3 n l) (b0 : 0 ≤ b) (b1 : b < (n : Int)) {m : List Int} (hm : Fars n l b m) (hs : relaxV l m = m) : ∀ (k : Nat) {g : List Int}, Fars n l b g → (∀ v : Int, 0 ≤ v → v < (n : Int) → rd m v ≤ rd g v) → min n (right n m g + k) ≤ right n m (farsN l k g)
  | 0, g, _, _ => by simp only [farsN]; omega
  | k + 1, g, hg, hle => by
    obtain ⟨h1, h2⟩ := fars_grow hl b0 b1 hm hs hg hle
    have h3 := fars_right hl b0 b1 hm hs k (fars_relax hl b0 b1 hg) h1
    have h4 := right_le n m (relaxV l g)
    simp only [farsN]
    by_cases h5 : right n m g < n
    · have := h2 h5; omega
    · have h6 := right_le n m g
      have h7 : right n m (relaxV l g) = n := by
        unfold right
        rw [List.countP_eq_length.2]
        · simp
        · intro x hx
          have hx2 := List.mem_range.1 hx
          have h8 := right_all (g := g) (m := m) (n := n) (by omega) (v := (x : Int)) (by omega) (by omega)
          have h9 := h1 (x : Int) (by omega) (by omega)
          have h10 := relaxV_le hl hg.len (v := (x : Int)) (by omega)
          exact decide_eq_true (by omega)
      omega
theorem farsN_low (hl : In3 n l) (b0 : 0 ≤ b) (b1 : b < (n : Int)) : ∀ (k : Nat) {g : List Int}, Fars n l b g → ∀ v : Int, 0 ≤ v → rd (farsN l k g) v ≤ rd g v
  | 0, g, _ => fun v _ => Int.le_refl _
  | k + 1, g, h => fun v v0 => Int.le_trans (farsN_low hl b0 b1 k (fars_relax hl b0 b1 h) v v0) (relaxV_le hl h.len v0)
/-- All is right after n rounds. -/
theorem farsV_fix (hl : In3 n l) (b0 : 0 ≤ b) (b1 : b < (n : Int)) : relaxV l (farsV n l b) = farsV n l b := by
  have h0 : Fars n l b (far0 n b) := fars_start b0 b1
  obtain ⟨K, hK⟩ := stable_some hl b0 b1 (far0 n b).sum.toNat h0 (by have := fars_sum h0; omega)
  have hm := fars_n hl b0 b1 K h0
  have h1 := fars_right hl b0 b1 hm hK n h0 (fun v v0 _ => farsN_low hl b0 b1 K h0 v v0)
  have h2 := right_le n (farsN l K (far0 n b)) (farsN l n (far0 n b))
  have h3 : farsV n l b = farsN l K (far0 n b) := rd_ext (n := n) (fars_n hl b0 b1 n h0).len hm.len (fun v v0 v1 => right_all (by unfold farsV; omega) v0 v1)
  rw [h3, hK]
theorem farsV_is (hl : In3 n l) (b0 : 0 ≤ b) (b1 : b < (n : Int)) : Fars n l b (farsV n l b) := fars_n hl b0 b1 n (fars_start b0 b1)
theorem farsV_small (hn : n ≤ 12) (hl : In3 n l) (b0 : 0 ≤ b) (b1 : b < (n : Int)) {v : Int} (v0 : 0 ≤ v) (v1 : v < (n : Int)) : rd (farsV n l b) v = 100000 ∨ rd (farsV n l b) v ≤ 1200 := by
  have := far_small_n hl b0 b1 n 0 (by omega) (by omega) (fars_start (l := l) b0 b1) (fun v v0 v1 => by rw [rd_far0 b0 b1 v0 v1]; split <;> omega) v v0 v1
  unfold farsV; omega
theorem farsV_adj (hl : In3 n l) (b0 : 0 ≤ b) (b1 : b < (n : Int)) {v u c : Int} (h : Adj l v u c) : rd (farsV n l b) v ≤ rd (farsV n l b) u + c := by
  have := relaxV_adj hl (farsV_is hl b0 b1).len h
  rwa [farsV_fix hl b0 b1] at this
/-- Where it is not far, an edge leads nearer. -/
theorem farsV_next (hl : In3 n l) (b0 : 0 ≤ b) (b1 : b < (n : Int)) {v : Int} (v0 : 0 ≤ v) (v1 : v < (n : Int)) (hv : v ≠ b) (hf : rd (farsV n l b) v ≠ 100000) : ∃ u c, Adj l v u c ∧ rd (farsV n l b) u + c = rd (farsV n l b) v := by
  rcases (farsV_is hl b0 b1).next v v0 v1 with h | h | ⟨u, c, h, h2⟩
  · exact absurd h hv
  · exact absurd h hf
  · exact ⟨u, c, h, by have := farsV_adj hl b0 b1 h; omega⟩
end
end Go.Proofs.Ytpohlcjkabojcaa.Q
