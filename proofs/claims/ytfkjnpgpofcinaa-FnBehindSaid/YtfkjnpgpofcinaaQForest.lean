import Derived.Test.YtfkjnpgpofcinaaQTree
namespace Go.Proofs.Ytfkjnpgpofcinaa.Q
open Go.RowKit Go.Proofs.YtfkjnpgpofcinaaW.PrintWords
set_option linter.unusedVariables false
set_option linter.unusedSimpArgs false

/-! Parents whose ways up all end: what is seen from a spot over another one. -/
/-- How many spots lie on the way up. -/
def depF (ps : List Int) : Nat → Int → Nat
  | 0, _ => 0
  | j + 1, v => if v ≥ 0 then depF ps j (rd ps v) + 1 else 0
def dep (ps : List Int) (v : Int) : Nat := depF ps ps.length v
structure Forest (ps : List Int) : Prop where
  par : ∀ v : Int, 0 ≤ v → v < (ps.length : Int) → -1 ≤ rd ps v ∧ rd ps v < (ps.length : Int)
  ends : ∀ v : Int, 0 ≤ v → v < (ps.length : Int) → upN ps ps.length v < 0
theorem goodP_forest {ps : List Int} (h : goodP ps = true) : Forest ps ∧ ps.length ≤ 12 := by
  simp only [goodP, Bool.and_eq_true] at h
  obtain ⟨h1, h2, h3⟩ := h
  refine ⟨⟨fun v h0 hv => ?_, fun v h0 hv => ?_⟩, by have := inB_iff.1 h1; omega⟩
  · have := allB_iff.1 h2 _ (rd_mem h0 hv); omega
  · have := upsB_get ps ps.length 0 h3 v.toNat (by omega) (by omega)
    rwa [show ((v.toNat : Nat) : Int) = v by omega] at this
theorem depF_le (ps : List Int) : ∀ (j : Nat) (v : Int), depF ps j v ≤ j
  | 0, _ => Nat.le_refl _
  | j + 1, v => by
    have := depF_le ps j (rd ps v)
    unfold depF; split <;> omega
theorem dep_le (ps : List Int) (v : Int) : dep ps v ≤ ps.length := depF_le ps _ v
theorem depF_neg (ps : List Int) {v : Int} (h : v < 0) : ∀ j, depF ps j v = 0
  | 0 => rfl
  | j + 1 => by simp only [depF, if_neg (show ¬ v ≥ 0 by omega)]
theorem depF_stable (ps : List Int) : ∀ (j j' : Nat) (v : Int), upN ps j v < 0 → j ≤ j' → depF ps j' v = depF ps j v
  | 0, j', v, h, _ => by rw [depF_neg ps (show v < 0 from h)]; rfl
  | j + 1, 0, v, h, hj => by omega
  | j + 1, j' + 1, v, h, hj => by
    by_cases h0 : v ≥ 0
    · simp only [upN, if_pos h0] at h
      simp only [depF, if_pos h0, depF_stable ps j j' _ h (by omega)]
    · simp only [depF, if_neg h0]
theorem dep_neg (ps : List Int) {v : Int} (h : v < 0) : dep ps v = 0 := depF_neg ps h _
theorem Forest.dep_succ {ps : List Int} (F : Forest ps) {v : Int} (h0 : 0 ≤ v) (h1 : v < (ps.length : Int)) : dep ps v = dep ps (rd ps v) + 1 := by
  obtain ⟨m, hm⟩ : ∃ m, ps.length = m + 1 := ⟨ps.length - 1, by omega⟩
  have hu := F.ends v h0 h1
  unfold dep
  rw [hm] at hu ⊢
  simp only [upN, if_pos (show v ≥ 0 from h0)] at hu
  rw [depF_stable ps m (m + 1) _ hu (by omega)]
  simp only [depF, if_pos (show v ≥ 0 from h0)]

/-- k lies on the way up from v. -/
inductive Up (ps : List Int) (k : Int) : Int → Prop
  | refl : Up ps k k
  | step (v : Int) : 0 ≤ v → v < (ps.length : Int) → Up ps k (rd ps v) → Up ps k v
theorem Up.dep_le {ps : List Int} (F : Forest ps) {k v : Int} (h : Up ps k v) : dep ps k ≤ dep ps v := by
  induction h with
  | refl => exact Nat.le_refl _
  | step v h0 h1 _ ih => rw [F.dep_succ h0 h1]; omega
theorem Up.inv {ps : List Int} {k v : Int} (h : Up ps k v) : v = k ∨ (0 ≤ v ∧ v < (ps.length : Int) ∧ Up ps k (rd ps v)) := by
  cases h with
  | refl => exact .inl rfl
  | step _ h0 h1 h => exact .inr ⟨h0, h1, h⟩
theorem Up.parent {ps : List Int} {k v : Int} (h0 : 0 ≤ k) (h1 : k < (ps.length : Int)) (h : Up ps k v) : Up ps (rd ps k) v := by
  induction h with
  | refl => exact .step k h0 h1 .refl
  | step v a b _ ih => exact .step v a b ih
theorem Up.sibling {ps : List Int} (F : Forest ps) {k k' x v : Int} (h0 : 0 ≤ k) (h1 : k < (ps.length : Int)) (h0' : 0 ≤ k') (h1' : k' < (ps.length : Int)) (hk : rd ps k = x) (hk' : rd ps k' = x) (h : Up ps k v) (h' : Up ps k' v) : k = k' := by
  have d := F.dep_succ h0 h1
  have d' := F.dep_succ h0' h1'
  rw [hk] at d
  rw [hk'] at d'
  induction h with
  | refl =>
    rcases h'.inv with e | ⟨_, _, h'⟩
    · exact e
    · rw [hk] at h'; have := h'.dep_le F; omega
  | step v a b hu ih =>
    rcases h'.inv with e | ⟨_, _, h'⟩
    · subst e; rw [hk'] at hu; have := hu.dep_le F; omega
    · exact ih h'

theorem joinFrom_mem (ps : List Int) (a : Int) : ∀ (t p : List Int), p ++ t = ps → ∀ k, k ∈ joinFrom ps a p.length t ↔ (p.length : Int) ≤ k ∧ k < (ps.length : Int) ∧ (rd ps k = a ∨ rd ps a = k)
  | [], p, e, k => by
    have : p.length = ps.length := by rw [← e]; simp
    simp only [joinFrom, List.not_mem_nil, false_iff]; omega
  | x :: t, p, e, k => by
    have ih := joinFrom_mem ps a t (p ++ [x]) (by rw [← e]; simp) k
    have hx : rd ps (p.length : Int) = x := by rw [← e]; exact c_rd p x t
    have hl : p.length < ps.length := by rw [← e]; simp
    simp only [List.length_append, List.length_cons, List.length_nil, Nat.zero_add] at ih
    unfold joinFrom
    by_cases hc : x = a ∨ rd ps a = (p.length : Int)
    · rw [if_pos hc, List.mem_cons, ih]
      constructor
      · rintro (rfl | h)
        · rw [hx]; exact ⟨Int.le_refl _, by omega, hc⟩
        · omega
      · rintro ⟨h1, h2, h3⟩
        by_cases hk : k = (p.length : Int)
        · exact .inl hk
        · exact .inr ⟨by omega, h2, h3⟩
    · rw [if_neg hc, ih]
      constructor
      · rintro h; omega
      · rintro ⟨h1, h2, h3⟩
        by_cases hk : k = (p.length : Int)
        · subst hk; rw [hx] at h3; exact absurd h3 hc
        · exact ⟨by omega, h2, h3⟩
theorem joinL_mem {ps : List Int} {a k : Int} : k ∈ joinL ps a ↔ 0 ≤ k ∧ k < (ps.length : Int) ∧ (rd ps k = a ∨ rd ps a = k) := joinFrom_mem ps a ps [] rfl k
theorem joinFrom_sorted (ps : List Int) (a : Int) : ∀ (t : List Int) (i : Nat), (joinFrom ps a i t).Pairwise (fun x y => x < y) ∧ ∀ y ∈ joinFrom ps a i t, (i : Int) ≤ y
  | [], i => by simp [joinFrom]
  | x :: t, i => by
    obtain ⟨h1, h2⟩ := joinFrom_sorted ps a t (i + 1)
    unfold joinFrom
    split
    · refine ⟨List.pairwise_cons.2 ⟨fun y hy => ?_, h1⟩, fun y hy => ?_⟩
      · have := h2 y hy; omega
      · rcases List.mem_cons.1 hy with rfl | hy
        · omega
        · have := h2 y hy; omega
    · exact ⟨h1, fun y hy => by have := h2 y hy; omega⟩
theorem joinL_nodup (ps : List Int) (a : Int) : (joinL ps a).Nodup := (joinFrom_sorted ps a ps 0).1.imp (fun h e => by omega)
/-- Where one goes from a, come from b. -/
def nexts (ps : List Int) (b a : Int) : List Int := (joinL ps a).filter fun k => decide (k ≠ b)
theorem nexts_mem {ps : List Int} {a b k : Int} : k ∈ nexts ps b a ↔ (0 ≤ k ∧ k < (ps.length : Int) ∧ (rd ps k = a ∨ rd ps a = k)) ∧ k ≠ b := by
  simp only [nexts, List.mem_filter, joinL_mem, decide_eq_true_eq]
theorem nexts_nodup (ps : List Int) (b a : Int) : (nexts ps b a).Nodup := List.Pairwise.filter _ (joinL_nodup ps a)
/-- How deep one goes at most from a, come from b. -/
def need (ps : List Int) (b a : Int) : Nat := if rd ps a = b then ps.length + 1 - dep ps a else dep ps a + ps.length + 1
theorem need_pos (ps : List Int) (b a : Int) : 1 ≤ need ps b a ∧ need ps b a ≤ 2 * ps.length + 1 := by
  have := dep_le ps a
  unfold need; split <;> omega
theorem need_lt {ps : List Int} (F : Forest ps) {b a k : Int} (h0 : 0 ≤ a) (h1 : a < (ps.length : Int)) (hk : k ∈ nexts ps b a) : need ps a k < need ps b a := by
  obtain ⟨⟨k0, k1, h⟩, hb⟩ := nexts_mem.1 hk
  have da := F.dep_succ h0 h1
  have dk := F.dep_succ k0 k1
  have la := dep_le ps a
  have lk := dep_le ps k
  unfold need
  by_cases ha : rd ps a = b
  · have hr : rd ps k = a := h.resolve_right fun e => hb (e.symm.trans ha)
    rw [hr] at dk
    rw [if_pos ha, if_pos hr]; omega
  · rw [if_neg ha]
    by_cases hr : rd ps k = a
    · rw [if_pos hr]; omega
    · rw [if_neg hr, ← h.resolve_left hr] 
      rw [h.resolve_left hr] at da ⊢; omega
/-- All from a on, come from b. -/
def nd (ps : List Int) : Nat → Int → Int → List Int
  | 0, _, _ => []
  | m + 1, b, a => a :: (nexts ps b a).flatMap (nd ps m a)
theorem flatMap_congr' {α β : Type} {f g : α → List β} : ∀ {l : List α}, (∀ x ∈ l, f x = g x) → l.flatMap f = l.flatMap g
  | [], _ => rfl
  | x :: t, h => by
    simp only [List.flatMap_cons, h x (by simp), flatMap_congr' (l := t) (fun y hy => h y (by simp [hy]))]
theorem nd_stable {ps : List Int} (F : Forest ps) : ∀ (m m' : Nat) (b a : Int), 0 ≤ a → a < (ps.length : Int) → need ps b a ≤ m → need ps b a ≤ m' → nd ps m b a = nd ps m' b a
  | 0, _, b, a, _, _, h, _ => by have := (need_pos ps b a).1; omega
  | _ + 1, 0, b, a, _, _, _, h => by have := (need_pos ps b a).1; omega
  | m + 1, m' + 1, b, a, h0, h1, h, h' => by
    simp only [nd]
    rw [flatMap_congr' fun k hk => ?_]
    obtain ⟨⟨k0, k1, _⟩, _⟩ := nexts_mem.1 hk
    have := need_lt F h0 h1 hk
    exact nd_stable F m m' a k k0 k1 (by omega) (by omega)
def nodes (ps : List Int) (b a : Int) : List Int := nd ps (2 * ps.length + 2) b a
theorem nodes_eq {ps : List Int} (F : Forest ps) {b a : Int} (h0 : 0 ≤ a) (h1 : a < (ps.length : Int)) : nodes ps b a = a :: (nexts ps b a).flatMap (nodes ps a) := by
  unfold nodes
  rw [nd, flatMap_congr' fun k hk => ?_]
  obtain ⟨⟨k0, k1, _⟩, _⟩ := nexts_mem.1 hk
  have := need_lt F h0 h1 hk
  have := (need_pos ps b a).2
  exact nd_stable F _ _ a k k0 k1 (by omega) (by omega)
theorem walk_ind {ps : List Int} (F : Forest ps) {P : Int → Int → Prop} (h : ∀ b a, 0 ≤ a → a < (ps.length : Int) → (∀ k ∈ nexts ps b a, P a k) → P b a) : ∀ (m : Nat) (b a : Int), 0 ≤ a → a < (ps.length : Int) → need ps b a ≤ m → P b a
  | 0, b, a, _, _, hm => by have := (need_pos ps b a).1; omega
  | m + 1, b, a, h0, h1, hm => h b a h0 h1 fun k hk => by
    obtain ⟨⟨k0, k1, _⟩, _⟩ := nexts_mem.1 hk
    have := need_lt F h0 h1 hk
    exact walk_ind F h m a k k0 k1 (by omega)
/-- v lies on a's side, seen from b, which is joined with a. -/
def side (ps : List Int) (b a v : Int) : Prop := (rd ps a = b ∧ Up ps a v) ∨ (rd ps a ≠ b ∧ ¬ Up ps b v)
theorem side_self {ps : List Int} (F : Forest ps) {b a : Int} (b0 : 0 ≤ b) (b1 : b < (ps.length : Int)) (h : rd ps a = b ∨ rd ps b = a) : side ps b a a := by
  by_cases ha : rd ps a = b
  · exact .inl ⟨ha, .refl⟩
  · refine .inr ⟨ha, fun hu => ?_⟩
    have d := F.dep_succ b0 b1
    rw [h.resolve_left ha] at d
    have := hu.dep_le F; omega
theorem side_not {ps : List Int} (F : Forest ps) {a k : Int} (k0 : 0 ≤ k) (k1 : k < (ps.length : Int)) : ¬ side ps a k a := by
  rintro (⟨h, hu⟩ | ⟨_, hu⟩)
  · have d := F.dep_succ k0 k1
    rw [h] at d
    have := hu.dep_le F; omega
  · exact hu .refl
theorem side_sub {ps : List Int} (F : Forest ps) {b a s v : Int} (a0 : 0 ≤ a) (a1 : a < (ps.length : Int)) (b0 : 0 ≤ b) (b1 : b < (ps.length : Int)) (h : rd ps a = b ∨ rd ps b = a) (hs : s ∈ nexts ps b a) (hv : side ps a s v) : side ps b a v := by
  obtain ⟨⟨s0, s1, hj⟩, hb⟩ := nexts_mem.1 hs
  by_cases ha : rd ps a = b
  · have hr : rd ps s = a := hj.resolve_right fun e => hb (e.symm.trans ha)
    rcases hv with ⟨_, hu⟩ | ⟨hn, _⟩
    · refine .inl ⟨ha, ?_⟩
      have := hu.parent s0 s1
      rwa [hr] at this
    · exact absurd hr hn
  · have hba := h.resolve_left ha
    refine .inr ⟨ha, fun hu => ?_⟩
    rcases hv with ⟨hr, hs⟩ | ⟨hn, hs⟩
    · exact hb (Up.sibling F s0 s1 b0 b1 hr hba hs hu)
    · have := hu.parent b0 b1
      rw [hba] at this
      exact hs this
theorem side_apart {ps : List Int} (F : Forest ps) {a s t v : Int} (hs : s ∈ joinL ps a) (ht : t ∈ joinL ps a) (hne : s ≠ t) (h : side ps a s v) (h' : side ps a t v) : False := by
  obtain ⟨s0, s1, hs⟩ := joinL_mem.1 hs
  obtain ⟨t0, t1, ht⟩ := joinL_mem.1 ht
  rcases h with ⟨h1, h⟩ | ⟨h1, h⟩ <;> rcases h' with ⟨h2, h'⟩ | ⟨h2, h'⟩
  · exact hne (Up.sibling F s0 s1 t0 t1 h1 h2 h h')
  · have := h.parent s0 s1
    rw [h1] at this
    exact h' this
  · have := h'.parent t0 t1
    rw [h2] at this
    exact h this
  · exact hne ((hs.resolve_left h1).symm.trans (ht.resolve_left h2))
theorem nodes_side {ps : List Int} (F : Forest ps) : ∀ (b a : Int), 0 ≤ a → a < (ps.length : Int) → (0 ≤ b → b < (ps.length : Int) → (rd ps a = b ∨ rd ps b = a) → ∀ v ∈ nodes ps b a, side ps b a v) := by
  intro b a h0 h1
  refine walk_ind F (P := fun b a => 0 ≤ b → b < (ps.length : Int) → (rd ps a = b ∨ rd ps b = a) → ∀ v ∈ nodes ps b a, side ps b a v) ?_ _ b a h0 h1 (Nat.le_refl _)
  intro b a h0 h1 ih b0 b1 hj v hv
  rw [nodes_eq F h0 h1, List.mem_cons] at hv
  rcases hv with rfl | hv
  · exact side_self F b0 b1 hj
  · obtain ⟨k, hk, hv⟩ := List.mem_flatMap.1 hv
    exact side_sub F h0 h1 b0 b1 hj hk (ih k hk h0 h1 (nexts_mem.1 hk).1.2.2 v hv)
theorem nodes_in {ps : List Int} (F : Forest ps) : ∀ (b a : Int), 0 ≤ a → a < (ps.length : Int) → ∀ v ∈ nodes ps b a, 0 ≤ v ∧ v < (ps.length : Int) := by
  intro b a h0 h1
  refine walk_ind F (P := fun b a => ∀ v ∈ nodes ps b a, 0 ≤ v ∧ v < (ps.length : Int)) ?_ _ b a h0 h1 (Nat.le_refl _)
  intro b a h0 h1 ih v hv
  rw [nodes_eq F h0 h1, List.mem_cons] at hv
  rcases hv with rfl | hv
  · exact ⟨h0, h1⟩
  · obtain ⟨k, hk, hv⟩ := List.mem_flatMap.1 hv
    exact ih k hk v hv
theorem nodup_flat {α : Type} {f : α → List Int} : ∀ {l : List α}, l.Nodup → (∀ x ∈ l, (f x).Nodup) → (∀ x ∈ l, ∀ y ∈ l, x ≠ y → ∀ v ∈ f x, v ∉ f y) → (l.flatMap f).Nodup
  | [], _, _, _ => by simp
  | x :: t, hn, h1, h2 => by
    obtain ⟨hx, hn⟩ := List.nodup_cons.1 hn
    rw [List.flatMap_cons, List.nodup_append]
    refine ⟨h1 x (by simp), nodup_flat hn (fun y hy => h1 y (by simp [hy])) (fun y hy z hz => h2 y (by simp [hy]) z (by simp [hz])), fun a ha b hb e => ?_⟩
    subst e
    obtain ⟨y, hy, hb⟩ := List.mem_flatMap.1 hb
    exact h2 x (by simp) y (by simp [hy]) (fun e => hx (e ▸ hy)) a ha hb
theorem nodes_nodup {ps : List Int} (F : Forest ps) : ∀ (b a : Int), 0 ≤ a → a < (ps.length : Int) → (nodes ps b a).Nodup := by
  intro b a h0 h1
  refine walk_ind F (P := fun b a => (nodes ps b a).Nodup) ?_ _ b a h0 h1 (Nat.le_refl _)
  intro b a h0 h1 ih
  rw [nodes_eq F h0 h1, List.nodup_cons]
  have hs : ∀ k ∈ nexts ps b a, ∀ v ∈ nodes ps a k, side ps a k v := fun k hk => by
    obtain ⟨⟨k0, k1, hj⟩, _⟩ := nexts_mem.1 hk
    exact nodes_side F a k k0 k1 h0 h1 hj
  refine ⟨fun hm => ?_, nodup_flat (nexts_nodup ps b a) ih fun x hx y hy hne v hv hv' => ?_⟩
  · obtain ⟨k, hk, hm⟩ := List.mem_flatMap.1 hm
    obtain ⟨⟨k0, k1, _⟩, _⟩ := nexts_mem.1 hk
    exact side_not F k0 k1 (hs k hk a hm)
  · exact side_apart F (List.mem_filter.1 hx).1 (List.mem_filter.1 hy).1 hne (hs x hx v hv) (hs y hy v hv')
theorem filter_ne (n : Int) : ∀ l : List Int, l.Nodup → l.length ≤ (l.filter fun x => decide (x ≠ n)).length + 1
  | [], _ => by simp
  | x :: t, h => by
    obtain ⟨h1, h2⟩ := List.nodup_cons.1 h
    by_cases hx : x = n
    · have : t.filter (fun x => decide (x ≠ n)) = t := List.filter_eq_self.2 fun y hy => by
        simp only [ne_eq, decide_not, Bool.not_eq_true', decide_eq_false_iff_not]
        rintro rfl; exact h1 (hx ▸ hy)
      rw [List.filter_cons_of_neg (by simp [hx]), this]; simp
    · have := filter_ne n t h2
      rw [List.filter_cons_of_pos (by simp [hx])]; simp only [List.length_cons]; omega
theorem nodup_length : ∀ (n : Nat) (l : List Int), l.Nodup → (∀ v ∈ l, 0 ≤ v ∧ v < (n : Int)) → l.length ≤ n
  | 0, [], _, _ => Nat.le_refl _
  | 0, x :: t, _, h => by have := h x (by simp); omega
  | n + 1, l, hn, h => by
    have h1 := filter_ne n l hn
    have h2 := nodup_length n (l.filter fun x => decide (x ≠ (n : Int))) (hn.filter _) fun v hv => by
      obtain ⟨h3, h4⟩ := List.mem_filter.1 hv
      have := h v h3
      simp only [ne_eq, decide_not, Bool.not_eq_true', decide_eq_false_iff_not] at h4
      omega
    omega
theorem nodes_length {ps : List Int} (F : Forest ps) (b a : Int) (h0 : 0 ≤ a) (h1 : a < (ps.length : Int)) : (nodes ps b a).length ≤ ps.length := nodup_length _ _ (nodes_nodup F b a h0 h1) (nodes_in F b a h0 h1)

/-- The hops that a list of (spot, whence) yet to be gone from gives. -/
def hopsF (ps : List Int) : Nat → List (Int × Int) → List (Int × Int)
  | 0, _ => []
  | _ + 1, [] => []
  | m + 1, x :: t => (nexts ps x.2 x.1).map (fun k => (x.1, k)) ++ hopsF ps m (t ++ (nexts ps x.2 x.1).map (fun k => (k, x.1)))
def allN (ps : List Int) (q : List (Int × Int)) : List Int := q.flatMap fun x => nodes ps x.2 x.1
/-- What is behind a (spot, whence), the spot left out. -/
def tailN (ps : List Int) (x : Int × Int) : List Int := (nexts ps x.2 x.1).flatMap (nodes ps x.1)
def QIn (ps : List Int) (q : List (Int × Int)) : Prop := ∀ x ∈ q, 0 ≤ x.1 ∧ x.1 < (ps.length : Int)
theorem nodes_tail {ps : List Int} (F : Forest ps) {x : Int × Int} (h : 0 ≤ x.1 ∧ x.1 < (ps.length : Int)) : nodes ps x.2 x.1 = x.1 :: tailN ps x := nodes_eq F h.1 h.2
theorem allN_map (ps : List Int) (s : Int) (ks : List Int) : allN ps (ks.map fun k => (k, s)) = ks.flatMap (nodes ps s) := by
  unfold allN; rw [List.flatMap_map]
theorem allN_next {ps : List Int} (F : Forest ps) {x : Int × Int} {t : List (Int × Int)} (h : 0 ≤ x.1 ∧ x.1 < (ps.length : Int)) : (allN ps (x :: t)).Perm (x.1 :: allN ps (t ++ (nexts ps x.2 x.1).map fun k => (k, x.1))) := by
  have e : allN ps (x :: t) = x.1 :: (tailN ps x ++ allN ps t) := by
    show nodes ps x.2 x.1 ++ allN ps t = _
    rw [nodes_tail F h]; rfl
  have e2 : allN ps (t ++ (nexts ps x.2 x.1).map fun k => (k, x.1)) = allN ps t ++ tailN ps x := by
    have := allN_map ps x.1 (nexts ps x.2 x.1)
    unfold allN at this ⊢
    rw [List.flatMap_append, this]; rfl
  rw [e, e2]
  exact (List.perm_append_comm).cons _
theorem qin_next {ps : List Int} {x : Int × Int} {t : List (Int × Int)} (h : QIn ps (x :: t)) : QIn ps (t ++ (nexts ps x.2 x.1).map fun k => (k, x.1)) := by
  intro y hy
  rcases List.mem_append.1 hy with hy | hy
  · exact h y (by simp [hy])
  · obtain ⟨k, hk, rfl⟩ := List.mem_map.1 hy
    exact ⟨(nexts_mem.1 hk).1.1, (nexts_mem.1 hk).1.2.1⟩
/-- All reached over hops but one from those already reached. -/
def bhF (nx at_ : Int) : List Int → List (Int × Int) → List Int
  | o, [] => o
  | o, h :: t => if h.1 = nx ∧ h.2 = at_ then bhF nx at_ o t else if hasB h.1 o = true then bhF nx at_ (o ++ [h.2]) t else bhF nx at_ o t
theorem bhF_block (nx at_ s : Int) (hs : s ≠ nx) (rest : List (Int × Int)) : ∀ (ks o : List Int), bhF nx at_ o (ks.map (fun k => (s, k)) ++ rest) = if hasB s o = true then bhF nx at_ (o ++ ks) rest else bhF nx at_ o rest
  | [], o => by simp
  | k :: t, o => by
    simp only [List.map_cons, List.cons_append, bhF, hs, false_and, if_false]
    rw [bhF_block nx at_ s hs rest t, bhF_block nx at_ s hs rest t]
    cases h : hasB s o
    · simp
    · have : hasB s (o ++ [k]) = true := hasB_iff.2 (by simp [hasB_iff.1 h])
      simp [this]
theorem bhF_first (nx at_ : Int) (rest : List (Int × Int)) : ∀ (ks o : List Int), nx ∈ o → bhF nx at_ o (ks.map (fun k => (nx, k)) ++ rest) = bhF nx at_ (o ++ ks.filter fun k => decide (k ≠ at_)) rest
  | [], o, _ => by simp
  | k :: t, o, h => by
    simp only [List.map_cons, List.cons_append, bhF, true_and, hasB_iff.2 h, if_true]
    by_cases hk : k = at_
    · rw [if_pos hk, bhF_first nx at_ rest t o h]
      simp [hk]
    · rw [if_neg hk, bhF_first nx at_ rest t (o ++ [k]) (by simp [h])]
      simp [hk]
theorem flat_tails {ps : List Int} (F : Forest ps) (s : Int) : ∀ (ks : List Int), (∀ k ∈ ks, 0 ≤ k ∧ k < (ps.length : Int)) → (ks ++ (ks.map fun k => (k, s)).flatMap (tailN ps)).Perm (ks.flatMap (nodes ps s))
  | [], _ => by simp
  | k :: t, h => by
    have ih := flat_tails F s t fun y hy => h y (by simp [hy])
    have e := nodes_tail F (x := (k, s)) (h k (by simp))
    simp only [] at e
    simp only [List.map_cons, List.flatMap_cons, e, List.cons_append]
    refine List.Perm.cons _ ?_
    have h1 : (t ++ (tailN ps (k, s) ++ (t.map fun k => (k, s)).flatMap (tailN ps))).Perm (tailN ps (k, s) ++ (t ++ (t.map fun k => (k, s)).flatMap (tailN ps))) := by
      rw [← List.append_assoc, ← List.append_assoc]
      exact List.perm_append_comm.append_right _
    exact h1.trans (ih.append_left _)
theorem tails_sub {ps : List Int} (F : Forest ps) : ∀ {q : List (Int × Int)}, QIn ps q → ∀ v ∈ q.flatMap (tailN ps), v ∈ allN ps q := by
  intro q h v hv
  obtain ⟨x, hx, hv⟩ := List.mem_flatMap.1 hv
  exact List.mem_flatMap.2 ⟨x, hx, by rw [nodes_tail F (h x hx)]; simp [hv]⟩
theorem heads_sub {ps : List Int} (F : Forest ps) {q : List (Int × Int)} (h : QIn ps q) {x : Int × Int} (hx : x ∈ q) : x.1 ∈ allN ps q := List.mem_flatMap.2 ⟨x, hx, by rw [nodes_tail F (h x hx)]; simp⟩
theorem nexts_tail {ps : List Int} (F : Forest ps) {x : Int × Int} {k : Int} (hk : k ∈ nexts ps x.2 x.1) : k ∈ tailN ps x := by
  obtain ⟨⟨k0, k1, _⟩, _⟩ := nexts_mem.1 hk
  exact List.mem_flatMap.2 ⟨k, hk, by rw [nodes_eq F k0 k1]; simp⟩
theorem bhF_perm {ps : List Int} (F : Forest ps) (nx at_ : Int) : ∀ (m : Nat) (q : List (Int × Int)) (o : List Int), QIn ps q → (allN ps q).length ≤ m → nx ∉ allN ps q → (allN ps q).Nodup → (∀ v ∈ o, v ∉ q.flatMap (tailN ps)) →
    (bhF nx at_ o (hopsF ps m q)).Perm (o ++ (q.filter fun x => hasB x.1 o).flatMap (tailN ps))
  | 0, [], o, _, _, _, _, _ => by simp [hopsF, bhF]
  | m + 1, [], o, _, _, _, _, _ => by simp [hopsF, bhF]
  | 0, x :: t, o, hq, hm, _, _, _ => by
    have : (allN ps (x :: t)).length = (x.1 :: allN ps (t ++ (nexts ps x.2 x.1).map fun k => (k, x.1))).length := (allN_next F (hq x (by simp))).length_eq
    simp only [List.length_cons] at this; omega
  | m + 1, x :: t, o, hq, hm, hx, hn, ho => by
    have hx0 := hq x (by simp)
    have hp := allN_next F (t := t) hx0
    have hl := hp.length_eq
    simp only [List.length_cons] at hl
    have hne : x.1 ≠ nx := fun e => hx (e ▸ heads_sub F hq (by simp))
    have hn2 := (hp.nodup_iff.1 hn)
    obtain ⟨hn3, hn4⟩ := List.nodup_cons.1 hn2
    have hq2 := qin_next hq
    have hx2 : nx ∉ allN ps (t ++ (nexts ps x.2 x.1).map fun k => (k, x.1)) := fun h => hx (hp.mem_iff.2 (by simp [h]))
    have hks : ∀ k ∈ nexts ps x.2 x.1, 0 ≤ k ∧ k < (ps.length : Int) := fun k hk => ⟨(nexts_mem.1 hk).1.1, (nexts_mem.1 hk).1.2.1⟩
    have hflat := flat_tails F x.1 (nexts ps x.2 x.1) hks
    have hsub : ∀ v ∈ ((nexts ps x.2 x.1).map fun k => (k, x.1)).flatMap (tailN ps), v ∈ tailN ps x := fun v hv => hflat.mem_iff.1 (by simp [hv])
    -- the nodes of the new queue
    have e2 : allN ps (t ++ (nexts ps x.2 x.1).map fun k => (k, x.1)) = allN ps t ++ tailN ps x := by
      have := allN_map ps x.1 (nexts ps x.2 x.1)
      unfold allN at this ⊢
      rw [List.flatMap_append, this]; rfl
    rw [e2, List.nodup_append] at hn4
    obtain ⟨nt, ntail, napart⟩ := hn4
    have hqt : QIn ps t := fun y hy => hq y (by simp [hy])
    simp only [List.flatMap_cons, List.mem_append, not_or] at ho
    simp only [hopsF]
    rw [bhF_block nx at_ x.1 hne]
    cases hb : hasB x.1 o
    · simp only [Bool.false_eq_true, if_false]
      refine (bhF_perm F nx at_ m _ o hq2 (by omega) hx2 (by rw [e2, List.nodup_append]; exact ⟨nt, ntail, napart⟩) ?_).trans ?_
      · intro v hv hm2
        rw [List.flatMap_append, List.mem_append] at hm2
        rcases hm2 with hm2 | hm2
        · exact (ho v hv).2 hm2
        · exact (ho v hv).1 (hsub v hm2)
      · have e3 : ((nexts ps x.2 x.1).map fun k => (k, x.1)).filter (fun y => hasB y.1 o) = [] := by
          rw [List.filter_eq_nil_iff]
          intro y hy hb2
          obtain ⟨k, hk, rfl⟩ := List.mem_map.1 hy
          exact (ho k (hasB_iff.1 hb2)).1 (nexts_tail F hk)
        rw [List.filter_append, e3, List.append_nil, List.filter_cons_of_neg (by simp [hb])]
    · simp only [if_true]
      refine (bhF_perm F nx at_ m _ (o ++ nexts ps x.2 x.1) hq2 (by omega) hx2 (by rw [e2, List.nodup_append]; exact ⟨nt, ntail, napart⟩) ?_).trans ?_
      · intro v hv hm2
        rw [List.flatMap_append, List.mem_append] at hm2
        rcases List.mem_append.1 hv with hv | hv
        · rcases hm2 with hm2 | hm2
          · exact (ho v hv).2 hm2
          · exact (ho v hv).1 (hsub v hm2)
        · rcases hm2 with hm2 | hm2
          · exact napart v (tails_sub F hqt v hm2) v (nexts_tail F hv) rfl
          · have := hflat.nodup_iff.2 (by exact ntail)
            exact (List.nodup_append.1 this).2.2 v hv v hm2 rfl
      · have e3 : ((nexts ps x.2 x.1).map fun k => (k, x.1)).filter (fun y => hasB y.1 (o ++ nexts ps x.2 x.1)) = (nexts ps x.2 x.1).map fun k => (k, x.1) := by
          rw [List.filter_eq_self]
          intro y hy
          obtain ⟨k, hk, rfl⟩ := List.mem_map.1 hy
          exact hasB_iff.2 (by simp [hk])
        have e4 : t.filter (fun y => hasB y.1 (o ++ nexts ps x.2 x.1)) = t.filter (fun y => hasB y.1 o) := by
          refine List.filter_congr fun y hy => ?_
          rw [Bool.eq_iff_iff, hasB_iff, hasB_iff, List.mem_append]
          exact ⟨fun h => h.resolve_right fun h => napart y.1 (heads_sub F hqt hy) y.1 (nexts_tail F h) rfl, .inl⟩
        rw [List.filter_append, e3, e4, List.flatMap_append, List.filter_cons_of_pos (by simp [hb]), List.flatMap_cons, List.append_assoc]
        refine List.Perm.append_left _ ?_
        have h1 : (nexts ps x.2 x.1 ++ ((t.filter fun y => hasB y.1 o).flatMap (tailN ps) ++ ((nexts ps x.2 x.1).map fun k => (k, x.1)).flatMap (tailN ps))).Perm (nexts ps x.2 x.1 ++ (((nexts ps x.2 x.1).map fun k => (k, x.1)).flatMap (tailN ps) ++ (t.filter fun y => hasB y.1 o).flatMap (tailN ps))) := List.perm_append_comm.append_left _
        refine h1.trans ?_
        rw [← List.append_assoc]
        exact hflat.append_right _
/-- What is behind nx from at: in the order of the hops it is all from nx on. -/
theorem behind_perm {ps : List Int} (F : Forest ps) {nx at_ : Int} (h0 : 0 ≤ nx) (h1 : nx < (ps.length : Int)) (m : Nat) (hm : ps.length ≤ m) : (bhF nx at_ [nx] (hopsF ps m [(nx, -1)])).Perm (nodes ps at_ nx) := by
  have hlen := nodes_length F (-1) nx h0 h1
  obtain ⟨m, rfl⟩ : ∃ j, m = j + 1 := ⟨m - 1, by omega⟩
  simp only [hopsF, List.nil_append]
  rw [bhF_first nx at_ _ _ _ (by simp)]
  have hnod := nodes_nodup F (-1) nx h0 h1
  have e := nodes_tail F (x := (nx, -1)) ⟨h0, h1⟩
  simp only [] at e
  have ea : allN ps ((nexts ps (-1) nx).map fun k => (k, nx)) = tailN ps (nx, -1) := allN_map ps nx _
  rw [e] at hnod hlen
  simp only [List.length_cons] at hlen
  obtain ⟨hnot, hnod⟩ := List.nodup_cons.1 hnod
  have hq : QIn ps ((nexts ps (-1) nx).map fun k => (k, nx)) := by
    intro y hy
    obtain ⟨k, hk, rfl⟩ := List.mem_map.1 hy
    exact ⟨(nexts_mem.1 hk).1.1, (nexts_mem.1 hk).1.2.1⟩
  have hks : ∀ k ∈ nexts ps (-1) nx, 0 ≤ k ∧ k < (ps.length : Int) := fun k hk => ⟨(nexts_mem.1 hk).1.1, (nexts_mem.1 hk).1.2.1⟩
  have hflat := flat_tails F nx (nexts ps (-1) nx) hks
  have hfn := hflat.nodup_iff.2 hnod
  have ef : (nexts ps (-1) nx).filter (fun k => decide (k ≠ at_)) = nexts ps at_ nx := by
    unfold nexts
    rw [List.filter_filter]
    refine List.filter_congr fun k hk => ?_
    have := (joinL_mem.1 hk).1
    simp only [ne_eq, decide_not, Bool.and_eq_left_iff_imp, Bool.not_eq_true', decide_eq_false_iff_not]
    intro _ e; omega
  refine (bhF_perm F nx at_ m _ _ hq (by rw [ea]; omega) (by rw [ea]; exact hnot) (by rw [ea]; exact hnod) ?_).trans ?_
  · intro v hv hm2
    rcases List.mem_append.1 hv with hv | hv
    · rw [List.mem_singleton] at hv
      subst hv
      exact hnot (by rw [← ea]; exact tails_sub F hq v hm2)
    · exact (List.nodup_append.1 hfn).2.2 v (List.mem_filter.1 hv).1 v hm2 rfl
  · have e3 : ((nexts ps (-1) nx).map fun k => (k, nx)).filter (fun x => hasB x.1 ([nx] ++ (nexts ps (-1) nx).filter fun k => decide (k ≠ at_))) = (nexts ps at_ nx).map fun k => (k, nx) := by
      rw [List.filter_map, ← ef]
      congr 1
      refine List.filter_congr fun k hk => ?_
      rw [Bool.eq_iff_iff, Function.comp, hasB_iff, List.mem_append, List.mem_singleton, List.mem_filter]
      refine ⟨fun h => ?_, fun h => .inr ⟨hk, h⟩⟩
      rcases h with h | h
      · exact absurd (h ▸ nexts_tail (x := (nx, -1)) F hk) hnot
      · exact h.2
    rw [e3, ef, nodes_eq F h0 h1]
    exact (flat_tails F nx (nexts ps at_ nx) fun k hk => ⟨(nexts_mem.1 hk).1.1, (nexts_mem.1 hk).1.2.1⟩).cons _
theorem hopsF_length {ps : List Int} (F : Forest ps) : ∀ (m : Nat) (q : List (Int × Int)), QIn ps q → (hopsF ps m q).length + q.length ≤ (allN ps q).length
  | 0, [], _ => by simp [hopsF, allN]
  | m + 1, [], _ => by simp [hopsF, allN]
  | 0, x :: t, h => by
    have hl := (allN_next F (t := t) (h x (by simp))).length_eq
    have := hopsF_length F 0 t fun y hy => h y (by simp [hy])
    have e : (allN ps (x :: t)).length = (nodes ps x.2 x.1).length + (allN ps t).length := by simp [allN]
    rw [nodes_tail F (h x (by simp))] at e
    simp only [hopsF, List.length_nil, List.length_cons] at this e ⊢; omega
  | m + 1, x :: t, h => by
    have hl := (allN_next F (t := t) (h x (by simp))).length_eq
    have := hopsF_length F m _ (qin_next h)
    simp only [hopsF, List.length_append, List.length_map, List.length_cons] at this hl ⊢; omega
theorem hopsF_in {ps : List Int} : ∀ (m : Nat) (q : List (Int × Int)), QIn ps q → ∀ h ∈ hopsF ps m q, (0 ≤ h.1 ∧ h.1 < (ps.length : Int)) ∧ 0 ≤ h.2 ∧ h.2 < (ps.length : Int)
  | 0, _, _, h, hh => by simp [hopsF] at hh
  | _ + 1, [], _, h, hh => by simp [hopsF] at hh
  | m + 1, x :: t, hq, h, hh => by
    simp only [hopsF, List.mem_append] at hh
    rcases hh with hh | hh
    · obtain ⟨k, hk, rfl⟩ := List.mem_map.1 hh
      exact ⟨hq x (by simp), (nexts_mem.1 hk).1.1, (nexts_mem.1 hk).1.2.1⟩
    · exact hopsF_in m _ (qin_next hq) h hh
theorem foldput : ∀ (l o : List Int), o.Pairwise (fun x y => x < y) → (o ++ l).Nodup → (l.foldl putV o).Pairwise (fun x y => x < y) ∧ (l.foldl putV o).Perm (o ++ l)
  | [], o, h, _ => by simp [h]
  | x :: t, o, h, hn => by
    have hx : x ∉ o := fun hm => (List.nodup_append.1 hn).2.2 x hm x (by simp) rfl
    have hp := putV_perm x o hx
    have hp2 : (putV o x ++ t).Perm (o ++ x :: t) := by
      have := hp.append_right t
      simpa using this
    obtain ⟨h1, h2⟩ := foldput t (putV o x) (putV_sorted x o h) (hp2.nodup_iff.2 hn)
    exact ⟨h1, h2.trans hp2⟩

/-! What hops lead to. -/
def reachP : List Int → List (Int × Int) → List Int
  | o, [] => o
  | o, h :: t => if hasB h.1 o = true then reachP (putV o h.2) t else reachP o t
theorem hopsF_join {ps : List Int} : ∀ (m : Nat) (q : List (Int × Int)), ∀ h ∈ hopsF ps m q, h.2 ∈ joinL ps h.1
  | 0, _, h, hh => by simp [hopsF] at hh
  | _ + 1, [], h, hh => by simp [hopsF] at hh
  | m + 1, x :: t, h, hh => by
    simp only [hopsF, List.mem_append] at hh
    rcases hh with hh | hh
    · obtain ⟨k, hk, rfl⟩ := List.mem_map.1 hh
      exact (List.mem_filter.1 hk).1
    · exact hopsF_join m _ h hh
theorem join_ne {ps : List Int} (F : Forest ps) {a k : Int} (h0 : 0 ≤ a) (h1 : a < (ps.length : Int)) (hk : k ∈ joinL ps a) : k ≠ a := by
  rintro rfl
  have h := (joinL_mem.1 hk).2.2
  have d := F.dep_succ h0 h1
  rcases h with h | h <;> (rw [h] at d; omega)
theorem foldput_mem {s : Int} : ∀ (l o : List Int), s ∈ o → s ∈ l.foldl putV o
  | [], _, h => h
  | x :: t, o, h => foldput_mem t (putV o x) ((putV_mem x s o).2 (.inr h))
theorem reach_block (W : Int × Int → Bool) (s : Int) (rest : List (Int × Int)) : ∀ (ks o : List Int), ((∃ k ∈ ks, W (s, k) = true) → s ∈ o) → reachP o ((ks.map fun k => (s, k)).filter W ++ rest) = reachP ((ks.filter fun k => W (s, k)).foldl putV o) rest
  | [], o, _ => by simp
  | k :: t, o, h => by
    cases hk : W (s, k)
    · rw [List.map_cons, List.filter_cons_of_neg (by simp [hk]), List.filter_cons_of_neg (by simp [hk])]
      exact reach_block W s rest t o fun ⟨j, hj, hw⟩ => h ⟨j, by simp [hj], hw⟩
    · have hs := h ⟨k, by simp, hk⟩
      rw [List.map_cons, List.filter_cons_of_pos hk, List.filter_cons_of_pos (by simp [hk]), List.cons_append, reachP, if_pos (hasB_iff.2 hs), List.foldl_cons]
      exact reach_block W s rest t (putV o k) fun _ => (putV_mem k s o).2 (.inr hs)
theorem reach_perm {ps : List Int} (F : Forest ps) (W : Int × Int → Bool) (hW : ∀ s k j, 0 ≤ s → s < (ps.length : Int) → k ∈ joinL ps s → j ∈ nexts ps s k → W (k, j) = true → W (s, k) = true) : ∀ (m : Nat) (q : List (Int × Int)) (o : List Int), QIn ps q → (allN ps q).length ≤ m → (allN ps q).Nodup → o.Pairwise (fun x y => x < y) → (∀ v ∈ o, v ∉ q.flatMap (tailN ps)) → (∀ x ∈ q, (∃ k ∈ nexts ps x.2 x.1, W (x.1, k) = true) → x.1 ∈ o) →
    (reachP o ((hopsF ps m q).filter W)).Pairwise (fun x y => x < y) ∧ (reachP o ((hopsF ps m q).filter W)).Perm (o ++ ((hopsF ps m q).filter W).map Prod.snd)
  | 0, [], o, _, _, _, hs, _, _ => by simp [hopsF, reachP, hs]
  | m + 1, [], o, _, _, _, hs, _, _ => by simp [hopsF, reachP, hs]
  | 0, x :: t, o, hq, hm, _, _, _, _ => by
    have := (allN_next F (t := t) (hq x (by simp))).length_eq
    simp only [List.length_cons] at this; omega
  | m + 1, x :: t, o, hq, hm, hn, hs, ho, hlive => by
    have hx0 := hq x (by simp)
    have hp := allN_next F (t := t) hx0
    have hl := hp.length_eq
    simp only [List.length_cons] at hl
    have hn2 := (hp.nodup_iff.1 hn)
    obtain ⟨hn3, hn4⟩ := List.nodup_cons.1 hn2
    have hq2 := qin_next hq
    have hks : ∀ k ∈ nexts ps x.2 x.1, 0 ≤ k ∧ k < (ps.length : Int) := fun k hk => ⟨(nexts_mem.1 hk).1.1, (nexts_mem.1 hk).1.2.1⟩
    have hflat := flat_tails F x.1 (nexts ps x.2 x.1) hks
    have hsub : ∀ v ∈ ((nexts ps x.2 x.1).map fun k => (k, x.1)).flatMap (tailN ps), v ∈ tailN ps x := fun v hv => hflat.mem_iff.1 (by simp [hv])
    have e2 : allN ps (t ++ (nexts ps x.2 x.1).map fun k => (k, x.1)) = allN ps t ++ tailN ps x := by
      have := allN_map ps x.1 (nexts ps x.2 x.1)
      unfold allN at this ⊢
      rw [List.flatMap_append, this]; rfl
    have hn5 := hn4
    rw [e2, List.nodup_append] at hn5
    obtain ⟨nt, ntail, napart⟩ := hn5
    have hqt : QIn ps t := fun y hy => hq y (by simp [hy])
    simp only [List.flatMap_cons, List.mem_append, not_or] at ho
    simp only [hopsF, List.filter_append]
    rw [reach_block W x.1 _ _ _ (hlive x (by simp))]
    have hsubk : ∀ k ∈ (nexts ps x.2 x.1).filter (fun k => W (x.1, k)), k ∈ nexts ps x.2 x.1 := fun k hk => (List.mem_filter.1 hk).1
    have hod : (o ++ (nexts ps x.2 x.1).filter fun k => W (x.1, k)).Nodup := by
      rw [List.nodup_append]
      refine ⟨hs.imp (fun h e => by omega), (nexts_nodup ps x.2 x.1).filter _, fun a ha b hb e => ?_⟩
      subst e
      exact (ho a ha).1 (nexts_tail F (hsubk a hb))
    obtain ⟨hs2, hp2⟩ := foldput ((nexts ps x.2 x.1).filter fun k => W (x.1, k)) o hs hod
    have hmem : ∀ v, v ∈ ((nexts ps x.2 x.1).filter fun k => W (x.1, k)).foldl putV o ↔ v ∈ o ∨ v ∈ (nexts ps x.2 x.1).filter fun k => W (x.1, k) := fun v => by rw [hp2.mem_iff, List.mem_append]
    obtain ⟨i1, i2⟩ := reach_perm F W hW m _ (((nexts ps x.2 x.1).filter fun k => W (x.1, k)).foldl putV o) hq2 (by omega) hn4 hs2 (by
      intro v hv hm2
      rw [List.flatMap_append, List.mem_append] at hm2
      rcases (hmem v).1 hv with hv | hv
      · rcases hm2 with hm2 | hm2
        · exact (ho v hv).2 hm2
        · exact (ho v hv).1 (hsub v hm2)
      · have hv := hsubk v hv
        rcases hm2 with hm2 | hm2
        · exact napart v (tails_sub F hqt v hm2) v (nexts_tail F hv) rfl
        · have := hflat.nodup_iff.2 ntail
          exact (List.nodup_append.1 this).2.2 v hv v hm2 rfl) (by
      intro y hy hex
      rcases List.mem_append.1 hy with hy | hy
      · exact (hmem _).2 (.inl (hlive y (by simp [hy]) hex))
      · obtain ⟨k, hk, rfl⟩ := List.mem_map.1 hy
        obtain ⟨j, hj, hw⟩ := hex
        exact (hmem _).2 (.inr (List.mem_filter.2 ⟨hk, hW x.1 k j hx0.1 hx0.2 (List.mem_filter.1 hk).1 hj hw⟩)))
    refine ⟨i1, i2.trans ?_⟩
    have e5 : (((nexts ps x.2 x.1).map fun k => (x.1, k)).filter W).map Prod.snd = (nexts ps x.2 x.1).filter fun k => W (x.1, k) := by
      rw [List.filter_map, List.map_map]
      exact List.map_id _
    rw [List.map_append, e5, ← List.append_assoc]
    exact hp2.append_right _
/-- What is reached from a over the hops of W. -/
theorem reach_all {ps : List Int} (F : Forest ps) (W : Int × Int → Bool) (hW : ∀ s k j, 0 ≤ s → s < (ps.length : Int) → k ∈ joinL ps s → j ∈ nexts ps s k → W (k, j) = true → W (s, k) = true) {a : Int} (h0 : 0 ≤ a) (h1 : a < (ps.length : Int)) : (reachP [a] ((hopsF ps ps.length [(a, -1)]).filter W)).Perm (a :: ((hopsF ps ps.length [(a, -1)]).filter W).map Prod.snd) := by
  have e : allN ps [(a, -1)] = nodes ps (-1) a := by simp [allN]
  have hn := nodes_nodup F (-1) a h0 h1
  refine (reach_perm F W hW ps.length [(a, -1)] [a] (by intro x hx; rw [List.mem_singleton.1 hx]; exact ⟨h0, h1⟩) (by rw [e]; exact nodes_length F (-1) a h0 h1) (by rw [e]; exact hn) (by simp) ?_ ?_).2
  · intro v hv hm
    rw [List.mem_singleton] at hv
    subst hv
    rw [nodes_tail F (x := (v, -1)) ⟨h0, h1⟩] at hn
    simp only [List.flatMap_cons, List.flatMap_nil, List.append_nil] at hm
    exact (List.nodup_cons.1 hn).1 hm
  · intro x hx _
    rw [List.mem_singleton] at hx
    subst hx
    simp

/-! Both ends of a branch. -/
theorem hopsF_len {ps : List Int} (F : Forest ps) : ∀ (m : Nat) (q : List (Int × Int)), QIn ps q → (allN ps q).length ≤ m → (hopsF ps m q).length + q.length = (allN ps q).length
  | 0, [], _, _ => by simp [hopsF, allN]
  | m + 1, [], _, _ => by simp [hopsF, allN]
  | 0, x :: t, h, hm => by
    have hl := (allN_next F (t := t) (h x (by simp))).length_eq
    simp only [List.length_cons] at hl; omega
  | m + 1, x :: t, h, hm => by
    have hl := (allN_next F (t := t) (h x (by simp))).length_eq
    simp only [List.length_cons] at hl
    have := hopsF_len F m _ (qin_next h) (by omega)
    simp only [hopsF, List.length_append, List.length_map, List.length_cons] at this ⊢; omega
theorem flat_pick {f : Int → List Int} : ∀ (L : List Int) (k : Int), L.Nodup → k ∈ L → (L.flatMap f).Perm (f k ++ (L.filter fun x => decide (x ≠ k)).flatMap f)
  | [], k, _, h => by simp at h
  | x :: t, k, hn, h => by
    obtain ⟨h1, h2⟩ := List.nodup_cons.1 hn
    by_cases hx : x = k
    · subst hx
      have e : t.filter (fun y => decide (y ≠ x)) = t := List.filter_eq_self.2 fun y hy => by
        simp only [ne_eq, decide_not, Bool.not_eq_true', decide_eq_false_iff_not]
        rintro rfl; exact h1 hy
      rw [List.filter_cons_of_neg (by simp), e, List.flatMap_cons]
    · rcases List.mem_cons.1 h with h | h
      · exact absurd h.symm hx
      · rw [List.filter_cons_of_pos (by simp [hx]), List.flatMap_cons, List.flatMap_cons]
        have h3 := (flat_pick (f := f) t k h2 h).append_left (f x)
        refine h3.trans ?_
        rw [← List.append_assoc, ← List.append_assoc]
        exact List.perm_append_comm.append_right _
/-- All from a on is what is behind k, and what is behind a from k. -/
theorem both_sides {ps : List Int} (F : Forest ps) {a k : Int} (h0 : 0 ≤ a) (h1 : a < (ps.length : Int)) (hk : k ∈ joinL ps a) : (nodes ps (-1) a).Perm (nodes ps a k ++ nodes ps k a) := by
  have e : nexts ps (-1) a = joinL ps a := List.filter_eq_self.2 fun y hy => by
    have := (joinL_mem.1 hy).1
    simp only [ne_eq, decide_not, Bool.not_eq_true', decide_eq_false_iff_not]
    omega
  rw [nodes_eq F (b := -1) h0 h1, nodes_eq F (b := k) h0 h1, e]
  have h := (flat_pick (f := nodes ps a) (joinL ps a) k (joinL_nodup ps a) hk).cons a
  exact h.trans List.perm_middle.symm
theorem putV_drop (k : Int) : ∀ l : List Int, (putV l k).filter (fun x => decide (x ≠ k)) = l.filter fun x => decide (x ≠ k)
  | [] => by simp [putV]
  | y :: t => by
    unfold putV
    by_cases h1 : y < k
    · rw [if_pos h1]
      have hy : y ≠ k := by omega
      rw [List.filter_cons_of_pos (by simp [hy]), List.filter_cons_of_pos (by simp [hy]), putV_drop k t]
    · rw [if_neg h1]
      by_cases h2 : y = k
      · rw [if_pos h2]
      · rw [if_neg h2, List.filter_cons_of_neg (by simp)]
end Go.Proofs.Ytfkjnpgpofcinaa.Q
