import Derived.Test.YthambdfgkfkcmaaQBase
namespace Go.Proofs.Ythambdfgkfkcmaa.Q
open Go.RowKit Go.Proofs.YthambdfgkfkcmaaW.PrintWords
set_option linter.unusedVariables false
set_option linter.unusedSimpArgs false

/-! Groups of spots: the least spot that edges lead to. -/
/-- Each set that the edges don't leave holds b, where it holds a. -/
def Conn (ab : List (Int × Int)) (a b : Int) : Prop := ∀ S : Int → Prop, (∀ e ∈ ab, (S e.1 ↔ S e.2)) → S a → S b
theorem Conn.refl (ab : List (Int × Int)) (a : Int) : Conn ab a a := fun _ _ h => h
theorem Conn.trans {ab : List (Int × Int)} {a b c : Int} (h : Conn ab a b) (k : Conn ab b c) : Conn ab a c := fun S hS h0 => k S hS (h S hS h0)
theorem Conn.symm {ab : List (Int × Int)} {a b : Int} (h : Conn ab a b) : Conn ab b a := by
  intro S hS hb
  by_cases ha : S a
  · exact ha
  · exact absurd hb (h (fun x => ¬ S x) (fun e he => not_congr (hS e he)) ha)
theorem Conn.edge {ab : List (Int × Int)} {e : Int × Int} (h : e ∈ ab) : Conn ab e.1 e.2 := fun S hS h0 => (hS e h).1 h0
theorem Conn.mono {ab ab' : List (Int × Int)} (h : ∀ e ∈ ab, e ∈ ab') {a b : Int} (k : Conn ab a b) : Conn ab' a b := fun S hS h0 => k S (fun e he => hS e (h e he)) h0
theorem Conn.congr {ab ab' : List (Int × Int)} (h : ∀ e, e ∈ ab ↔ e ∈ ab') {a b : Int} : Conn ab a b ↔ Conn ab' a b := ⟨Conn.mono fun e he => (h e).1 he, Conn.mono fun e he => (h e).2 he⟩

def relax1 (g : List Int) (e : Int × Int) : List Int := (g.set e.1.toNat (min (rd g e.1) (rd g e.2))).set e.2.toNat (min (rd g e.1) (rd g e.2))
def pass (ab : List (Int × Int)) (g : List Int) : List Int := ab.foldl relax1 g
def passes (ab : List (Int × Int)) : Nat → List Int → List Int
  | 0, g => g
  | k + 1, g => passes ab k (pass ab g)
def initG (n : Nat) : List Int := (List.range n).map Int.ofNat
/-- The groups, as so many passes as there are spots leave them. -/
def groupsV (n : Nat) (ab : List (Int × Int)) : List Int := passes ab n (initG n)

/-- Within the spots. -/
def Within (n : Nat) (ab : List (Int × Int)) : Prop := ∀ e ∈ ab, 0 ≤ e.1 ∧ e.1 < n ∧ 0 ≤ e.2 ∧ e.2 < n
theorem rd_set {g : List Int} {i : Int} {x j : Int} (h0 : 0 ≤ i) (h1 : i < (g.length : Int)) (h2 : 0 ≤ j) : rd (g.set i.toNat x) j = if j = i then x else rd g j := by
  unfold rd
  rw [List.getD_eq_getElem?_getD, List.getElem?_set]
  by_cases h : j = i
  · subst h
    simp [show j.toNat < g.length by omega]
  · rw [if_neg (show ¬ i.toNat = j.toNat by omega), if_neg h, List.getD_eq_getElem?_getD]
theorem relax1_length (g : List Int) (e : Int × Int) : (relax1 g e).length = g.length := by simp [relax1]
theorem pass_length (ab : List (Int × Int)) : ∀ g : List Int, (pass ab g).length = g.length := by
  induction ab with
  | nil => intro g; rfl
  | cons e ab ih => intro g; show (pass ab (relax1 g e)).length = _; rw [ih, relax1_length]
theorem relax1_rd {g : List Int} {e : Int × Int} {n : Nat} (hl : g.length = n) (h : 0 ≤ e.1 ∧ e.1 < n ∧ 0 ≤ e.2 ∧ e.2 < n) {v : Int} (hv : 0 ≤ v) : rd (relax1 g e) v = if v = e.1 ∨ v = e.2 then min (rd g e.1) (rd g e.2) else rd g v := by
  unfold relax1
  rw [rd_set h.2.2.1 (by simp; omega) hv, rd_set h.1 (by omega) hv]
  by_cases h1 : v = e.2 <;> by_cases h2 : v = e.1 <;> simp [h1, h2]
theorem relax1_le {g : List Int} {e : Int × Int} {n : Nat} (hl : g.length = n) (h : 0 ≤ e.1 ∧ e.1 < n ∧ 0 ≤ e.2 ∧ e.2 < n) {v : Int} (hv : 0 ≤ v) : rd (relax1 g e) v ≤ rd g v := by
  rw [relax1_rd hl h hv]
  split
  · rename_i h1
    rcases h1 with rfl | rfl <;> omega
  · omega
theorem pass_le {n : Nat} {ab : List (Int × Int)} (hw : Within n ab) : ∀ {g : List Int}, g.length = n → ∀ {v : Int}, 0 ≤ v → rd (pass ab g) v ≤ rd g v := by
  induction ab with
  | nil => intro g _ v _; exact Int.le_refl _
  | cons e ab ih =>
    intro g hl v hv
    have h1 := ih (fun x hx => hw x (by simp [hx])) (g := relax1 g e) (by rw [relax1_length]; exact hl) hv
    have h2 := relax1_le hl (hw e (by simp)) hv
    exact Int.le_trans h1 h2
/-- Each number is a spot that edges lead to, no greater than the spot. -/
def Inner (n : Nat) (ab : List (Int × Int)) (g : List Int) : Prop := g.length = n ∧ ∀ v : Int, 0 ≤ v → v < n → 0 ≤ rd g v ∧ rd g v ≤ v ∧ Conn ab v (rd g v)
theorem inner_relax {n : Nat} {ab : List (Int × Int)} {g : List Int} (hi : Inner n ab g) {e : Int × Int} (he : e ∈ ab) (hw : Within n ab) : Inner n ab (relax1 g e) := by
  obtain ⟨hl, h⟩ := hi
  have hb := hw e he
  refine ⟨by rw [relax1_length]; exact hl, fun v h0 h1 => ?_⟩
  rw [relax1_rd hl hb h0]
  split
  · rename_i h2
    have a1 := h e.1 hb.1 hb.2.1
    have a2 := h e.2 hb.2.2.1 hb.2.2.2
    have hc := Conn.edge he
    have hm : min (rd g e.1) (rd g e.2) = rd g e.1 ∨ min (rd g e.1) (rd g e.2) = rd g e.2 := by omega
    refine ⟨by omega, ?_, ?_⟩
    · rcases h2 with rfl | rfl <;> omega
    · rcases h2 with rfl | rfl <;> rcases hm with hm | hm <;> rw [hm]
      · exact a1.2.2
      · exact hc.trans a2.2.2
      · exact hc.symm.trans a1.2.2
      · exact a2.2.2
  · exact h v h0 h1
theorem inner_pass' {n : Nat} {ab : List (Int × Int)} (hw : Within n ab) (l : List (Int × Int)) : (∀ e ∈ l, e ∈ ab) → ∀ g, Inner n ab g → Inner n ab (pass l g) := by
  induction l with
  | nil => intro _ g h; exact h
  | cons e l ih => intro hs g h; exact ih (fun x hx => hs x (by simp [hx])) _ (inner_relax h (hs e (by simp)) hw)
theorem inner_pass {n : Nat} {ab : List (Int × Int)} (hw : Within n ab) {g : List Int} (h : Inner n ab g) : Inner n ab (pass ab g) := inner_pass' hw ab (fun _ h => h) g h
theorem inner_passes {n : Nat} {ab : List (Int × Int)} (hw : Within n ab) : ∀ (k : Nat) {g : List Int}, Inner n ab g → Inner n ab (passes ab k g)
  | 0, _, h => h
  | k + 1, _, h => inner_passes hw k (inner_pass hw h)
theorem initG_length (n : Nat) : (initG n).length = n := by simp [initG]
theorem rd_initG {n : Nat} {v : Int} (h0 : 0 ≤ v) (h1 : v < n) : rd (initG n) v = v := by
  unfold rd initG
  rw [List.getD_eq_getElem?_getD, List.getElem?_map, List.getElem?_range (by omega)]
  simp; omega
theorem inner_init (n : Nat) (ab : List (Int × Int)) : Inner n ab (initG n) := ⟨initG_length n, fun v h0 h1 => by rw [rd_initG h0 h1]; exact ⟨h0, Int.le_refl _, Conn.refl _ _⟩⟩
/-- The groups: alike at both ends of each edge. -/
def IsGroups (n : Nat) (ab : List (Int × Int)) (g : List Int) : Prop := Inner n ab g ∧ ∀ e ∈ ab, rd g e.1 = rd g e.2
theorem IsGroups.const {n : Nat} {ab : List (Int × Int)} {g : List Int} (h : IsGroups n ab g) {a b : Int} (hc : Conn ab a b) : rd g a = rd g b := hc (fun x => rd g a = rd g x) (fun e he => by rw [h.2 e he]) rfl
theorem IsGroups.le {n : Nat} {ab : List (Int × Int)} {g g' : List Int} (h : IsGroups n ab g) (h' : Inner n ab g') {v : Int} (h0 : 0 ≤ v) (h1 : v < n) : rd g v ≤ rd g' v := by
  have a := h'.2 v h0 h1
  rw [h.const a.2.2]
  exact (h.1.2 _ a.1 (by omega)).2.1
theorem rd_ext {n : Nat} {g g' : List Int} (hl : g.length = n) (hl' : g'.length = n) (h : ∀ v : Int, 0 ≤ v → v < n → rd g v = rd g' v) : g = g' := by
  apply List.ext_getElem (by omega)
  intro i h1 h2
  have := h i (by omega) (by omega)
  simpa [rd, List.getD_eq_getElem?_getD, h1, h2] using this
theorem IsGroups.unique {n : Nat} {ab : List (Int × Int)} {g g' : List Int} (h : IsGroups n ab g) (h' : IsGroups n ab g') : g = g' :=
  rd_ext h.1.1 h'.1.1 fun v h0 h1 => Int.le_antisymm (h.le h'.1 h0 h1) (h'.le h.1 h0 h1)

/-! Passes till nothing changes. -/
/-- A pass, and whether an edge's ends were unlike the lesser one. -/
def passF : List (Int × Int) → List Int → Bool → List Int × Bool
  | [], g, b => (g, b)
  | e :: l, g, b => passF l (relax1 g e) (b || (decide (rd g e.1 ≠ min (rd g e.1) (rd g e.2)) || decide (rd g e.2 ≠ min (rd g e.1) (rd g e.2))))
theorem passF_fst (l : List (Int × Int)) : ∀ g b, (passF l g b).1 = pass l g := by
  induction l with
  | nil => intro g b; rfl
  | cons e l ih => intro g b; exact ih _ _
theorem passF_true (l : List (Int × Int)) : ∀ g, (passF l g true).2 = true := by
  induction l with
  | nil => intro g; rfl
  | cons e l ih => intro g; simp only [passF, Bool.true_or]; exact ih _
theorem relax1_same {g : List Int} {e : Int × Int} {n : Nat} (hl : g.length = n) (h : 0 ≤ e.1 ∧ e.1 < n ∧ 0 ≤ e.2 ∧ e.2 < n) (he : rd g e.1 = rd g e.2) : relax1 g e = g := by
  refine rd_ext (n := n) (by rw [relax1_length]; exact hl) hl fun v h0 h1 => ?_
  rw [relax1_rd hl h h0]
  split
  · rename_i h2
    rcases h2 with rfl | rfl <;> omega
  · rfl
theorem passF_false {n : Nat} (l : List (Int × Int)) (hw : Within n l) : ∀ g, g.length = n → (passF l g false).2 = false → pass l g = g ∧ ∀ e ∈ l, rd g e.1 = rd g e.2 := by
  induction l with
  | nil => intro g _ _; exact ⟨rfl, by simp⟩
  | cons e l ih =>
    intro g hl h
    simp only [passF, Bool.false_or] at h
    cases hd : (decide (rd g e.1 ≠ min (rd g e.1) (rd g e.2)) || decide (rd g e.2 ≠ min (rd g e.1) (rd g e.2)))
    · rw [hd] at h
      simp only [Bool.or_eq_false_iff, decide_eq_false_iff_not, Decidable.not_not] at hd
      have he : rd g e.1 = rd g e.2 := by omega
      have hs := relax1_same hl (hw e (by simp)) he
      rw [hs] at h
      obtain ⟨h1, h2⟩ := ih (fun x hx => hw x (by simp [hx])) g hl h
      refine ⟨by show pass l (relax1 g e) = g; rw [hs]; exact h1, fun x hx => ?_⟩
      rcases List.mem_cons.1 hx with rfl | hx
      · exact he
      · exact h2 x hx
    · rw [hd, passF_true] at h; cases h
/-- All numbers together. -/
def total (g : List Int) : Int := g.sum
theorem sum_set : ∀ (g : List Int) (i : Nat) (x : Int) (h : i < g.length), (g.set i x).sum = g.sum - g[i] + x
  | y :: t, 0, x, _ => by simp; omega
  | y :: t, i + 1, x, h => by
    have := sum_set t i x (by simpa using h)
    simp only [List.set_cons_succ, List.sum_cons, List.getElem_cons_succ, this]; omega
theorem rd_get {g : List Int} {i : Int} (h0 : 0 ≤ i) (h1 : i < (g.length : Int)) : rd g i = g[i.toNat]'(by omega) := by
  simp [rd, List.getD_eq_getElem?_getD, show i.toNat < g.length by omega]
theorem total_set {g : List Int} {i x : Int} (h0 : 0 ≤ i) (h1 : i < (g.length : Int)) : total (g.set i.toNat x) = total g - rd g i + x := by
  unfold total
  rw [sum_set g i.toNat x (by omega), rd_get h0 h1]
theorem total_relax {g : List Int} {e : Int × Int} {n : Nat} (hl : g.length = n) (h : 0 ≤ e.1 ∧ e.1 < n ∧ 0 ≤ e.2 ∧ e.2 < n) : total (relax1 g e) ≤ total g ∧ ((decide (rd g e.1 ≠ min (rd g e.1) (rd g e.2)) || decide (rd g e.2 ≠ min (rd g e.1) (rd g e.2))) = true → total (relax1 g e) < total g) := by
  unfold relax1
  rw [total_set h.2.2.1 (by simp; omega), total_set h.1 (by omega), rd_set h.1 (by omega) h.2.2.1]
  constructor
  · split <;> omega
  · intro hd
    simp only [Bool.or_eq_true, decide_eq_true_eq] at hd
    split
    · rename_i h2; rw [h2] at hd; omega
    · omega
theorem total_pass {n : Nat} (l : List (Int × Int)) (hw : Within n l) : ∀ g b, g.length = n → total (pass l g) ≤ total g ∧ ((passF l g b).2 = true → b = true ∨ total (pass l g) < total g) := by
  induction l with
  | nil => intro g b _; exact ⟨Int.le_refl _, fun h => .inl h⟩
  | cons e l ih =>
    intro g b hl
    obtain ⟨a1, a2⟩ := total_relax hl (hw e (by simp))
    obtain ⟨b1, b2⟩ := ih (fun x hx => hw x (by simp [hx])) (relax1 g e) (b || (decide (rd g e.1 ≠ min (rd g e.1) (rd g e.2)) || decide (rd g e.2 ≠ min (rd g e.1) (rd g e.2)))) (by rw [relax1_length]; exact hl)
    refine ⟨Int.le_trans b1 a1, fun h => ?_⟩
    rcases b2 h with h2 | h2
    · rcases Bool.or_eq_true _ _ ▸ h2 with h3 | h3
      · exact .inl h3
      · exact .inr (Int.lt_of_le_of_lt b1 (a2 h3))
    · exact .inr (Int.lt_of_lt_of_le h2 a1)
/-- Passes, till one changes nothing, at most so many. -/
def settleG (ab : List (Int × Int)) : Nat → List Int → List Int
  | 0, g => g
  | k + 1, g => if (passF ab g false).2 = true then settleG ab k (pass ab g) else pass ab g
theorem total_nonneg {n : Nat} {ab : List (Int × Int)} {g : List Int} (h : Inner n ab g) : 0 ≤ total g := by
  have : ∀ l : List Int, (∀ x ∈ l, 0 ≤ x) → 0 ≤ l.sum := by
    intro l
    induction l with
    | nil => intro _; simp
    | cons x l ih => intro hx; have := ih (fun y hy => hx y (by simp [hy])); have := hx x (by simp); simp; omega
  refine this g fun x hx => ?_
  obtain ⟨i, hi, rfl⟩ := List.getElem_of_mem hx
  have := (h.2 i (by omega) (by rw [← h.1]; omega)).1
  rw [rd_get (by omega) (by omega)] at this
  simpa using this
theorem settleG_groups {n : Nat} {ab : List (Int × Int)} (hw : Within n ab) : ∀ (k : Nat) (g : List Int), Inner n ab g → total g < k → IsGroups n ab (settleG ab k g)
  | 0, g, h, ht => by have := total_nonneg h; omega
  | k + 1, g, h, ht => by
    unfold settleG
    split
    · rename_i h2
      rcases (total_pass ab hw g false h.1).2 h2 with h3 | h3
      · cases h3
      · exact settleG_groups hw k _ (inner_pass hw h) (by omega)
    · rename_i h2
      obtain ⟨h3, h4⟩ := passF_false ab hw g h.1 (by simpa using h2)
      rw [h3]
      exact ⟨h, h4⟩
/-! So many passes as there are spots are enough: each makes one spot more right. -/
def right (n : Nat) (m g : List Int) : Nat := (List.range n).countP fun v : Nat => decide (rd g (v : Int) = rd m (v : Int))
theorem countP_lt {l : List Nat} {p q : Nat → Bool} (h : ∀ x ∈ l, p x = true → q x = true) {y : Nat} (hy : y ∈ l) (hp : p y = false) (hq : q y = true) : l.countP p < l.countP q := by
  induction l with
  | nil => cases hy
  | cons x l ih =>
    have hle : l.countP p ≤ l.countP q := List.countP_mono_left fun a ha => h a (by simp [ha])
    rw [List.countP_cons, List.countP_cons]
    rcases List.mem_cons.1 hy with rfl | hy
    · simp [hp, hq]; omega
    · have := ih (fun a ha => h a (by simp [ha])) hy
      have hx := h x (by simp)
      cases h1 : p x
      · cases h2 : q x <;> simp <;> omega
      · rw [hx h1]; simp; omega
theorem relax_hits {n : Nat} {ab : List (Int × Int)} (hw : Within n ab) {m : List Int} (hm : IsGroups n ab m) {x y : Int} (hx0 : 0 ≤ x) (hx1 : x < n) (hxy : rd m x = rd m y) (l : List (Int × Int)) : (∀ e ∈ l, e ∈ ab) → ((x, y) ∈ l ∨ (y, x) ∈ l) → ∀ g, Inner n ab g → rd g y = rd m y → rd (pass l g) x = rd m x := by
  induction l with
  | nil => intro _ h; rcases h with h | h <;> cases h
  | cons e l ih =>
    intro hs h g hg hy
    have hse : ∀ z ∈ l, z ∈ ab := fun z hz => hs z (by simp [hz])
    have hge := inner_relax hg (hs e (by simp)) hw
    have hyb : 0 ≤ y ∧ y < n := by
      rcases h with h | h
      · have := hw _ (hs _ h); exact ⟨this.2.2.1, this.2.2.2⟩
      · have := hw _ (hs _ h); exact ⟨this.1, this.2.1⟩
    have stay : ∀ {z : Int}, 0 ≤ z → z < n → ∀ {g1 : List Int}, Inner n ab g1 → rd g1 z = rd m z → ∀ {g2 : List Int}, Inner n ab g2 → rd g2 z ≤ rd g1 z → rd g2 z = rd m z := by
      intro z z0 z1 g1 _ e1 g2 i2 hle
      have := hm.le i2 z0 z1
      omega
    have hy' : rd (relax1 g e) y = rd m y := stay hyb.1 hyb.2 hg hy hge (relax1_le hg.1 (hw e (hs e (by simp))) hyb.1)
    by_cases he : e = (x, y) ∨ e = (y, x)
    · have hx' : rd (relax1 g e) x = rd m x := by
        have hlow := hm.le hg hx0 hx1
        have hb := hw e (hs e (by simp))
        rw [relax1_rd hg.1 hb hx0]
        rcases he with rfl | rfl
        · simp only [true_or, if_true]; omega
        · simp only [or_true, if_true]; omega
      exact stay hx0 hx1 hge hx' (inner_pass' hw l hse _ hge) (pass_le (fun z hz => hw z (hse z hz)) hge.1 hx0)
    · refine ih hse ?_ _ hge hy'
      rcases h with h | h
      · rcases List.mem_cons.1 h with h | h
        · exact absurd (.inl h.symm) he
        · exact .inl h
      · rcases List.mem_cons.1 h with h | h
        · exact absurd (.inr h.symm) he
        · exact .inr h
theorem right_le (n : Nat) (m g : List Int) : right n m g ≤ n := by
  have := List.countP_le_length (p := fun v : Nat => decide (rd g (v : Int) = rd m (v : Int))) (l := List.range n)
  simpa [right] using this
theorem right_all {n : Nat} {m g : List Int} (h : right n m g = n) {v : Int} (h0 : 0 ≤ v) (h1 : v < n) : rd g v = rd m v := by
  have h2 : (List.range n).countP (fun v : Nat => decide (rd g (v : Int) = rd m (v : Int))) = (List.range n).length := by simpa [right] using h
  have h3 := List.countP_eq_length.1 h2 v.toNat (by simp; omega)
  have e : ((v.toNat : Nat) : Int) = v := by omega
  simpa [e] using h3
theorem right_grows {n : Nat} {ab : List (Int × Int)} (hw : Within n ab) {m : List Int} (hm : IsGroups n ab m) {g : List Int} (hg : Inner n ab g) (hne : right n m g < n) : right n m g < right n m (pass ab g) := by
  have hgp := inner_pass hw hg
  have keep : ∀ v : Int, 0 ≤ v → v < n → rd g v = rd m v → rd (pass ab g) v = rd m v := by
    intro v v0 v1 e
    have h1 := hm.le hgp v0 v1
    have h2 := pass_le hw hg.1 v0
    omega
  -- one spot is not right
  obtain ⟨v, v0, v1, hv⟩ : ∃ v : Int, 0 ≤ v ∧ v < n ∧ rd g v ≠ rd m v := by
    apply Classical.byContradiction
    intro hno
    have : right n m g = n := by
      have : (List.range n).countP (fun v : Nat => decide (rd g (v : Int) = rd m (v : Int))) = (List.range n).length := List.countP_eq_length.2 fun a ha => by
        have ha' : a < n := by simpa using ha
        apply decide_eq_true
        apply Classical.byContradiction
        intro h
        exact hno ⟨a, by omega, by omega, h⟩
      simpa [right] using this
    omega
  -- the least of its group is right; between them an edge leaves what is right
  have hmv := hm.1.2 v v0 v1
  have hu : rd g (rd m v) = rd m (rd m v) := by
    have h1 := hm.le hg hmv.1 (by omega)
    have h2 := (hg.2 (rd m v) hmv.1 (by omega)).2.1
    have h3 := hm.const hmv.2.2
    omega
  obtain ⟨x, y, hxy, hx, hy⟩ : ∃ x y : Int, ((x, y) ∈ ab ∨ (y, x) ∈ ab) ∧ rd g x ≠ rd m x ∧ rd g y = rd m y := by
    apply Classical.byContradiction
    intro hno
    have := hmv.2.2 (fun z => rd g z ≠ rd m z) (fun e he => by
      constructor
      · intro h1 h2; exact hno ⟨e.1, e.2, .inl he, h1, h2⟩
      · intro h1 h2; exact hno ⟨e.2, e.1, .inr he, h1, h2⟩) hv
    exact this hu
  have hxb : 0 ≤ x ∧ x < n := by
    rcases hxy with h | h
    · have := hw _ h; exact ⟨this.1, this.2.1⟩
    · have := hw _ h; exact ⟨this.2.2.1, this.2.2.2⟩
  have hmxy : rd m x = rd m y := by
    rcases hxy with h | h
    · exact hm.2 _ h
    · exact (hm.2 _ h).symm
  have hxp := relax_hits hw hm hxb.1 hxb.2 hmxy ab (fun _ h => h) hxy g hg hy
  have ex : ((x.toNat : Nat) : Int) = x := by omega
  refine countP_lt (y := x.toNat) (fun a ha h => ?_) (by simp; omega) (by simpa [ex] using hx) (by simpa [ex] using hxp)
  have ha' : a < n := by simpa using ha
  exact decide_eq_true (keep a (by omega) (by omega) (by simpa using h))
theorem right_passes {n : Nat} {ab : List (Int × Int)} (hw : Within n ab) {m : List Int} (hm : IsGroups n ab m) : ∀ (k : Nat) {g : List Int}, Inner n ab g → min n (right n m g + k) ≤ right n m (passes ab k g)
  | 0, g, _ => by simp only [passes]; omega
  | k + 1, g, hg => by
    have h := right_passes hw hm k (inner_pass hw hg)
    simp only [passes]
    have h1 := right_le n m g
    rcases Nat.lt_or_ge (right n m g) n with h2 | h2
    · have := right_grows hw hm hg h2; omega
    · have hall : ∀ v : Int, 0 ≤ v → v < n → rd g v = rd m v := fun v => right_all (by omega)
      have e : g = m := rd_ext hg.1 hm.1.1 hall
      have hp : right n m (pass ab g) = n := by
        have hgp := inner_pass hw hg
        have : (List.range n).countP (fun v : Nat => decide (rd (pass ab g) (v : Int) = rd m (v : Int))) = (List.range n).length := List.countP_eq_length.2 fun a ha => by
          have ha' : a < n := by simpa using ha
          apply decide_eq_true
          have b1 := hm.le hgp (v := a) (by omega) (by omega)
          have b2 := pass_le hw hg.1 (v := a) (by omega)
          have b3 := hall a (by omega) (by omega)
          omega
        simpa [right] using this
      omega
theorem groupsV_is {n : Nat} {ab : List (Int × Int)} (hw : Within n ab) : IsGroups n ab (groupsV n ab) := by
  have hm := settleG_groups hw ((total (initG n)).toNat + 1) (initG n) (inner_init n ab) (by omega)
  have h1 := right_passes hw hm n (inner_init n ab)
  have h2 := right_le n (settleG ab ((total (initG n)).toNat + 1) (initG n)) (passes ab n (initG n))
  have hi := inner_passes hw n (inner_init n ab)
  have : groupsV n ab = settleG ab ((total (initG n)).toNat + 1) (initG n) := rd_ext hi.1 hm.1.1 fun v => right_all (g := passes ab n (initG n)) (by omega)
  rw [this]
  exact hm
theorem groupsV_conn {n : Nat} {ab : List (Int × Int)} (hw : Within n ab) {a b : Int} (a0 : 0 ≤ a) (a1 : a < n) (b0 : 0 ≤ b) (b1 : b < n) : rd (groupsV n ab) a = rd (groupsV n ab) b ↔ Conn ab a b := by
  have h := groupsV_is hw
  constructor
  · intro e
    have h1 := (h.1.2 a a0 a1).2.2
    have h2 := (h.1.2 b b0 b1).2.2
    rw [e] at h1
    exact h1.trans h2.symm
  · exact h.const
theorem groupsV_congr {n : Nat} {ab ab' : List (Int × Int)} (hw : Within n ab) (he : ∀ e, e ∈ ab ↔ e ∈ ab') : groupsV n ab = groupsV n ab' := by
  have hw' : Within n ab' := fun e h => hw e ((he e).2 h)
  have h := groupsV_is hw
  refine h.unique ⟨⟨(groupsV_is hw').1.1, fun v h0 h1 => ?_⟩, fun e h1 => (groupsV_is hw').2 e ((he e).1 h1)⟩
  have h2 := (groupsV_is hw').1.2 v h0 h1
  exact ⟨h2.1, h2.2.1, (Conn.congr he).2 h2.2.2⟩
/-- How many groups there are. -/
def manyV (n : Nat) (ab : List (Int × Int)) : Nat := rootsFrom 0 (groupsV n ab)

theorem rootsFrom_le : ∀ (l : List Int) (i : Nat), rootsFrom i l ≤ l.length
  | [], _ => Nat.le_refl _
  | x :: t, i => by
    have := rootsFrom_le t (i + 1)
    simp only [rootsFrom, List.length_cons]
    split <;> omega
theorem passes_length (ab : List (Int × Int)) : ∀ (k : Nat) (g : List Int), (passes ab k g).length = g.length
  | 0, _ => rfl
  | k + 1, g => by simp only [passes]; rw [passes_length ab k, pass_length]
theorem groupsV_length (n : Nat) (ab : List (Int × Int)) : (groupsV n ab).length = n := by rw [groupsV, passes_length, initG_length]
theorem manyV_le (n : Nat) (ab : List (Int × Int)) : manyV n ab ≤ n := by
  have := rootsFrom_le (groupsV n ab) 0
  rw [groupsV_length] at this
  exact this
theorem within_sub {n : Nat} {ab ab' : List (Int × Int)} (h : Within n ab) (hs : ∀ e ∈ ab', e ∈ ab) : Within n ab' := fun e he => h e (hs e he)
theorem within_erase {n : Nat} {ab : List (Int × Int)} (h : Within n ab) (i : Nat) : Within n (ab.eraseIdx i) := within_sub h fun _ he => List.mem_of_mem_eraseIdx he
/-- The edges without those of a spot. -/
def endsNo (s : Int) (ab : List (Int × Int)) : List (Int × Int) := ab.filter fun e => decide (e.1 ≠ s) && decide (e.2 ≠ s)
theorem within_no {n : Nat} {ab : List (Int × Int)} (h : Within n ab) (s : Int) : Within n (endsNo s ab) := within_sub h fun _ he => (List.mem_filter.1 he).1
/-- The numbers, from i on, of those edges without which there are more groups. -/
def cutFrom (n : Nat) (ab : List (Int × Int)) : Nat → Nat → List Int
  | _, 0 => []
  | i, d + 1 => if manyV n (ab.eraseIdx i) > manyV n ab then (i : Int) :: cutFrom n ab (i + 1) d else cutFrom n ab (i + 1) d
def cutL (n : Nat) (ab : List (Int × Int)) : List Int := cutFrom n ab 0 ab.length
theorem cutFrom_length (n : Nat) (ab : List (Int × Int)) : ∀ (d i : Nat), (cutFrom n ab i d).length ≤ d
  | 0, _ => by simp [cutFrom]
  | d + 1, i => by
    have := cutFrom_length n ab d (i + 1)
    unfold cutFrom
    split <;> simp <;> omega
/-- The spots, from i on, without whose edges there are at least two groups more. -/
def cutSpotsFrom (n : Nat) (ab : List (Int × Int)) : Nat → Nat → List Int
  | _, 0 => []
  | i, d + 1 => if manyV n (endsNo (i : Int) ab) ≥ manyV n ab + 2 then (i : Int) :: cutSpotsFrom n ab (i + 1) d else cutSpotsFrom n ab (i + 1) d
def cutSpotsL (n : Nat) (ab : List (Int × Int)) : List Int := cutSpotsFrom n ab 0 n
/-- Those, from i on, that tell the same as a. -/
def sideFrom (g : List Int) (a : Int) : Nat → List Int → List Int
  | _, [] => []
  | i, x :: t => if x = rd g a then (i : Int) :: sideFrom g a (i + 1) t else sideFrom g a (i + 1) t
def sideV (g : List Int) (a : Int) : List Int := sideFrom g a 0 g
theorem sideFrom_length (g : List Int) (a : Int) : ∀ (t : List Int) (i : Nat), (sideFrom g a i t).length ≤ t.length
  | [], _ => by simp [sideFrom]
  | x :: t, i => by
    have := sideFrom_length g a t (i + 1)
    unfold sideFrom
    split <;> simp <;> omega

/-- The cost of the edge between two spots, 0 for none. -/
def costV : List (Int × Int × Int) → Int → Int → Int
  | [], _, _ => 0
  | e :: t, a, b => if e.1 = min a b ∧ e.2.1 = max a b then e.2.2 else costV t a b
theorem costV_none {a b : Int} (hab : a < b) : ∀ l : List (Int × Int × Int), (∀ e ∈ l, 1 ≤ e.2.2) → (costV l a b ≤ 0 ↔ ∀ e ∈ l, ¬ (e.1 = a ∧ e.2.1 = b))
  | [], _ => by simp [costV]
  | e :: t, h => by
    have h1 := costV_none hab t (fun x hx => h x (by simp [hx]))
    have h2 := h e (by simp)
    unfold costV
    rw [show min a b = a by omega, show max a b = b by omega]
    by_cases h3 : e.1 = a ∧ e.2.1 = b
    · rw [if_pos h3]
      constructor
      · intro h4; omega
      · intro h4; exact absurd h3 (h4 e (by simp))
    · rw [if_neg h3, h1]
      constructor
      · intro h4 x hx
        rcases List.mem_cons.1 hx with rfl | hx
        · exact h3
        · exact h4 x hx
      · intro h4 x hx
        exact h4 x (by simp [hx])
theorem manyV_congr {n : Nat} {ab ab' : List (Int × Int)} (hw : Within n ab) (he : ∀ e, e ∈ ab ↔ e ∈ ab') : manyV n ab = manyV n ab' := by
  unfold manyV
  rw [groupsV_congr hw he]
theorem mem_erase_iff {α : Type} : ∀ (l : List α) (i : Nat) (hi : i < l.length), l.Nodup → ∀ x, x ∈ l.eraseIdx i ↔ x ∈ l ∧ x ≠ l[i]
  | y :: t, 0, _, hn, x => by
    simp only [List.eraseIdx_cons_zero, List.getElem_cons_zero, List.mem_cons]
    have h1 : y ∉ t := (List.nodup_cons.1 hn).1
    constructor
    · intro h
      exact ⟨.inr h, fun h2 => h1 (h2 ▸ h)⟩
    · rintro ⟨h | h, h2⟩
      · exact absurd h h2
      · exact h
  | y :: t, i + 1, hi, hn, x => by
    have h1 := mem_erase_iff t i (by simpa using hi) (List.nodup_cons.1 hn).2 x
    have h2 : y ∉ t := (List.nodup_cons.1 hn).1
    simp only [List.eraseIdx_cons_succ, List.getElem_cons_succ, List.mem_cons, h1]
    constructor
    · rintro (h | ⟨h, h3⟩)
      · refine ⟨.inl h, fun h4 => h2 ?_⟩
        rw [← h, h4]; exact List.getElem_mem _
      · exact ⟨.inr h, h3⟩
    · rintro ⟨h | h, h3⟩
      · exact .inl h
      · exact .inr ⟨h, h3⟩
/-- The first b, of d from b on, with P a b. -/
def fixIn (P : Int → Int → Bool) (a : Int) : Nat → Int → Option Int
  | 0, _ => none
  | d + 1, b => if P a b then some b else fixIn P a d (b + 1)
def fixOut (P : Int → Int → Bool) (n : Nat) : Nat → Int → Int × Int × Bool
  | 0, _ => (0, 0, false)
  | d + 1, a => match fixIn P a ((n : Int) - a - 1).toNat (a + 1) with
    | some b => (a, b, true)
    | none => fixOut P n d (a + 1)
/-- With one more edge between a and b edge k is no more one of those that must not fail, and none joins a and b. -/
def fixP (n : Nat) (l : List (Int × Int × Int)) (ab : List (Int × Int)) (k : Nat) (a b : Int) : Bool :=
  decide (costV l a b ≤ 0) && !decide (manyV n ((ab ++ [(a, b)]).eraseIdx k) > manyV n (ab ++ [(a, b)]))
theorem cutFrom_has (n : Nat) (ab : List (Int × Int)) (k : Nat) : ∀ (d i : Nat), hasB (k : Int) (cutFrom n ab i d) = (decide (i ≤ k ∧ k < i + d) && decide (manyV n (ab.eraseIdx k) > manyV n ab))
  | 0, i => by simp [cutFrom, hasB]; omega
  | d + 1, i => by
    have h := cutFrom_has n ab k d (i + 1)
    unfold cutFrom
    by_cases h1 : manyV n (ab.eraseIdx i) > manyV n ab
    · rw [if_pos h1]
      have e : hasB (k : Int) ((i : Int) :: cutFrom n ab (i + 1) d) = (decide (k = i) || hasB (k : Int) (cutFrom n ab (i + 1) d)) := by
        simp only [hasB, List.any_cons]
        congr 1
        exact decide_eq_decide.2 (by omega)
      rw [e, h]
      by_cases h2 : k = i
      · subst h2; simp [h1]
      · have : (decide (i + 1 ≤ k ∧ k < i + 1 + d)) = decide (i ≤ k ∧ k < i + (d + 1)) := decide_eq_decide.2 (by omega)
        simp [h2, this]
    · rw [if_neg h1, h]
      by_cases h2 : k = i
      · subst h2; simp [h1]
      · have : (decide (i + 1 ≤ k ∧ k < i + 1 + d)) = decide (i ≤ k ∧ k < i + (d + 1)) := decide_eq_decide.2 (by omega)
        simp [this]
theorem cutL_has (n : Nat) (ab : List (Int × Int)) (k : Int) : hasB k (cutL n ab) = true → ∃ i : Nat, k = (i : Int) ∧ i < ab.length := by
  intro h
  unfold cutL at h
  have hm := hasB_iff.1 h
  have : ∀ (d i : Nat), ∀ x ∈ cutFrom n ab i d, ∃ j : Nat, x = (j : Int) ∧ j < i + d := by
    intro d
    induction d with
    | zero => intro i x hx; simp [cutFrom] at hx
    | succ d ih =>
      intro i x hx
      unfold cutFrom at hx
      split at hx
      · rcases List.mem_cons.1 hx with rfl | hx
        · exact ⟨i, rfl, by omega⟩
        · obtain ⟨j, hj, hl⟩ := ih (i + 1) x hx; exact ⟨j, hj, by omega⟩
      · obtain ⟨j, hj, hl⟩ := ih (i + 1) x hx; exact ⟨j, hj, by omega⟩
  obtain ⟨j, hj, hl⟩ := this _ _ _ hm
  exact ⟨j, hj, by omega⟩
/-- Good edges stand in a strict order: no two have the same ends. -/
theorem edgesB_sorted {m : Int} : ∀ (l : List (Int × Int × Int)) (o : Option (Int × Int × Int)), edgesB m o l = true → (∀ y, o = some y → ∀ x ∈ l, y.1 < x.1 ∨ (y.1 = x.1 ∧ y.2.1 < x.2.1)) ∧ l.Pairwise (fun y x => y.1 < x.1 ∨ (y.1 = x.1 ∧ y.2.1 < x.2.1))
  | [], _, _ => by simp
  | x :: t, o, h => by
    simp only [edgesB_cons, Bool.and_eq_true] at h
    obtain ⟨h1, h2⟩ := edgesB_sorted t _ h.2
    have h3 := h1 x rfl
    refine ⟨fun y hy z hz => ?_, List.pairwise_cons.2 ⟨h3, h2⟩⟩
    subst hy
    have hb := h.1.2
    simp only [behindB, decide_eq_true_eq] at hb
    rcases List.mem_cons.1 hz with rfl | hz
    · exact hb
    · have := h3 z hz; omega
theorem goodE_nodup {n : Int} {l : List (Int × Int × Int)} (h : goodE n l = true) : (l.map fun x => (x.1, x.2.1)).Nodup := by
  simp only [goodE, Bool.and_eq_true] at h
  have := (edgesB_sorted l none h.1).2
  rw [List.Nodup, List.pairwise_map]
  refine this.imp ?_
  intro a b hab he
  injection he with h1 h2
  omega
/-- The first number of an edge, in either direction, in a list whose first number is i; -1 for none. -/
def numFrom (x y : Int) : Nat → List (Int × Int) → Int
  | _, [] => -1
  | i, e :: t => if (e.1 = x ∧ e.2 = y) ∨ (e.1 = y ∧ e.2 = x) then (i : Int) else numFrom x y (i + 1) t
theorem numFrom_mem {x y : Int} (hxy : x < y) : ∀ (l : List (Int × Int)) (i : Nat), (∀ e ∈ l, e.1 < e.2) → (x, y) ∈ l → ∃ j, ∃ h : j < l.length, numFrom x y i l = ((i + j : Nat) : Int) ∧ l[j] = (x, y)
  | e :: t, i, hl, hm => by
    unfold numFrom
    by_cases h : (e.1 = x ∧ e.2 = y) ∨ (e.1 = y ∧ e.2 = x)
    · have := hl e (by simp)
      have he : e = (x, y) := by
        rcases h with h | h
        · exact Prod.ext h.1 h.2
        · omega
      exact ⟨0, by simp, by rw [if_pos h]; simp, by simpa using he⟩
    · have hm' : (x, y) ∈ t := by
        rcases List.mem_cons.1 hm with h1 | h1
        · exfalso; apply h; rw [← h1]; exact .inl ⟨rfl, rfl⟩
        · exact h1
      obtain ⟨j, hj, e1, e2⟩ := numFrom_mem hxy t (i + 1) (fun z hz => hl z (by simp [hz])) hm'
      exact ⟨j + 1, by simpa using hj, by rw [if_neg h, e1]; congr 1; omega, by simpa using e2⟩

end Go.Proofs.Ythambdfgkfkcmaa.Q
