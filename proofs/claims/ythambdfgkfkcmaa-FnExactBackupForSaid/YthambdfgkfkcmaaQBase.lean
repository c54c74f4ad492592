import Derived.Test.YthambdfgkfkcmaaW
namespace Go.Proofs.Ythambdfgkfkcmaa.Q
open Go.RowKit Go.Proofs.YthambdfgkfkcmaaW.PrintWords
set_option linter.unusedVariables false
set_option linter.unusedSimpArgs false

/-! What becomes of a printed function with ever more rounds. -/
theorem ev_ite {α : Type} {c : Prop} [Decidable c] {g h : Nat → Option α} {r : α} : Ev (fun k => if c then g k else h k) r ↔ if c then Ev g r else Ev h r := by
  split <;> rename_i hc <;> simp [hc]
theorem ev_some {α : Type} {a r : α} : Ev (fun _ => some a) r ↔ a = r :=
  ⟨fun ⟨K, h⟩ => Option.some.inj (h K (Nat.le_refl _)), fun h => h ▸ Ev.now _⟩
theorem ev_bind {α β : Type} {g : Nat → Option α} {f : Nat → α → Option β} {a : α} {r : β} (h : Ev g a) : Ev (fun k => (g k).bind (f k)) r ↔ Ev (fun k => f k a) r := by
  obtain ⟨K, hK⟩ := h
  constructor
  · rintro ⟨K', h'⟩
    refine ⟨max K K', fun k hk => ?_⟩
    have h2 : (g k).bind (f k) = some r := h' k (by omega)
    rw [hK k (by omega)] at h2
    exact h2
  · rintro ⟨K', h'⟩
    refine ⟨max K K', fun k hk => ?_⟩
    show (g k).bind (f k) = some r
    rw [hK k (by omega)]
    exact h' k (by omega)
theorem ev_some_bind {α β : Type} {f : Nat → α → Option β} {a : α} {r : β} : Ev (fun k => (some a).bind (f k)) r ↔ Ev (fun k => f k a) r := Iff.rfl
theorem ev_succ {α : Type} {g : Nat → Option α} {r : α} : Ev (fun k => g (k + 1)) r ↔ Ev g r := by
  constructor
  · rintro ⟨K, h⟩
    refine ⟨K + 1, fun k hk => ?_⟩
    obtain ⟨m, rfl⟩ : ∃ m, k = m + 1 := ⟨k - 1, by omega⟩
    exact h m (by omega)
  · rintro ⟨K, h⟩
    exact ⟨K, fun k hk => h (k + 1) (by omega)⟩
theorem ite_two {p1 p2 q1 q2 X Y : Prop} [Decidable p1] [Decidable p2] [Decidable q1] [Decidable q2] : (if p1 then (if p2 then X else (if q1 then (if q2 then X else Y) else Y)) else (if q1 then (if q2 then X else Y) else Y)) = (if (p1 ∧ p2) ∨ (q1 ∧ q2) then X else Y) := by
  by_cases h1 : p1 <;> by_cases h2 : p2 <;> by_cases h3 : q1 <;> by_cases h4 : q2 <;> simp [h1, h2, h3, h4]
/-! A loop over a list: p lies behind, t ahead. -/
section
variable {α : Type}
theorem c_lt (p : List α) (x : α) (t : List α) : ((p.length : Int) < ((p ++ x :: t).length : Int)) = True := eq_true (by simp; omega)
theorem c_end (p : List α) : ((p.length : Int) < ((p ++ ([] : List α)).length : Int)) = False := eq_false (by simp)
theorem c_nn (n : Nat) : (0 ≤ (n : Int)) = True := eq_true (by omega)
theorem c_next (p : List α) (x : α) (t : List α) (h : (p ++ x :: t).length ≤ 9223372036854775806) : wrap64 ((p.length : Int) + 1) = ((p ++ [x]).length : Int) := by
  simp only [List.length_append, List.length_cons, List.length_nil] at h ⊢
  unfold wrap64
  omega
theorem c_app (p : List α) (x : α) (t : List α) : p ++ x :: t = (p ++ [x]) ++ t := by simp
theorem c_rd (p : List Int) (x : Int) (t : List Int) : rd (p ++ x :: t) (p.length : Int) = x := by simp [rd]
theorem c_set (p : List α) (x y : α) (t : List α) : (p ++ x :: t).set ((p.length : Int)).toNat y = (p ++ [y]) ++ t := by simp
theorem w64 {n : Int} (h0 : -9223372036854775808 ≤ n) (h1 : n ≤ 9223372036854775807) : wrap64 n = n := by unfold wrap64; omega
end

/-- The numbers from a on, n of them. -/
def marks : Nat → Int → List Int
  | 0, _ => []
  | n + 1, a => a :: marks n (a + 1)
theorem marks_length (n : Nat) : ∀ a, (marks n a).length = n := by
  induction n with
  | zero => intro a; rfl
  | succ n ih => intro a; simp [marks, ih]

/-- lo ≤ x ≤ hi. -/
def inB (lo hi x : Int) : Bool := decide (lo ≤ x ∧ x ≤ hi)
theorem inB_iff {lo hi x : Int} : inB lo hi x = true ↔ lo ≤ x ∧ x ≤ hi := by simp [inB]
/-- All are in lo .. hi. -/
def allB (lo hi : Int) (l : List Int) : Bool := l.all (inB lo hi)
theorem allB_nil {lo hi : Int} : allB lo hi [] = true := rfl
theorem allB_cons {lo hi x : Int} {t : List Int} : allB lo hi (x :: t) = (inB lo hi x && allB lo hi t) := rfl
/-- Rising, behind what stood ahead. -/
def chainB : Option Int → List Int → Bool
  | _, [] => true
  | none, x :: t => chainB (some x) t
  | some y, x :: t => decide (y < x) && chainB (some x) t
theorem chainB_nil {o : Option Int} : chainB o [] = true := by cases o <;> rfl
theorem chainB_none {x : Int} {t : List Int} : chainB none (x :: t) = chainB (some x) t := rfl
theorem chainB_some {x y : Int} {t : List Int} : chainB (some y) (x :: t) = (decide (y < x) && chainB (some x) t) := rfl

/-- The edge x stands behind o in the order of ends. -/
def behindB : Option (Int × Int × Int) → Int × Int × Int → Bool
  | none, _ => true
  | some y, x => decide (y.1 < x.1 ∨ (y.1 = x.1 ∧ y.2.1 < x.2.1))
def edgesB (m : Int) : Option (Int × Int × Int) → List (Int × Int × Int) → Bool
  | _, [] => true
  | o, x :: t => inB 0 m x.1 && inB 0 m x.2.1 && decide (x.1 < x.2.1) && inB 1 100 x.2.2 && behindB o x && edgesB m (some x) t
theorem edgesB_nil {m : Int} {o : Option (Int × Int × Int)} : edgesB m o [] = true := rfl
theorem edgesB_cons {m : Int} {o : Option (Int × Int × Int)} {x : Int × Int × Int} {t : List (Int × Int × Int)} : edgesB m o (x :: t) = (inB 0 m x.1 && inB 0 m x.2.1 && decide (x.1 < x.2.1) && inB 1 100 x.2.2 && behindB o x && edgesB m (some x) t) := rfl
/-- Good edges of n spots. -/
def goodE (n : Int) (l : List (Int × Int × Int)) : Bool := edgesB (wrap64 (n - 1)) none l && (inB 1 12 n && decide (l.length ≤ 40))

/-- The first place of x in a list whose first place is i, -1 for none. -/
def idxFrom (x : Int) : Nat → List Int → Int
  | _, [] => -1
  | i, y :: t => if x = y then (i : Int) else idxFrom x (i + 1) t
def hasB (x : Int) (l : List Int) : Bool := l.any fun y => decide (x = y)
theorem hasB_iff {x : Int} {l : List Int} : hasB x l = true ↔ x ∈ l := by simp [hasB]
theorem idxFrom_has (x : Int) : ∀ (l : List Int) (i : Nat), decide (idxFrom x i l ≥ 0) = hasB x l
  | [], i => by simp [idxFrom, hasB]
  | y :: t, i => by
    unfold idxFrom
    by_cases h : x = y
    · simp [h, hasB]
    · rw [if_neg h, idxFrom_has x t (i + 1)]; simp [hasB, h]
/-- How many of a list, whose first place is i, tell their own place. -/
def rootsFrom : Nat → List Int → Nat
  | _, [] => 0
  | i, x :: t => (if x = (i : Int) then 1 else 0) + rootsFrom (i + 1) t
/-- A list, whose first place is i, without the places cut. -/
def dropFrom {α : Type} (cut : List Int) : Nat → List α → List α
  | _, [] => []
  | i, x :: t => if hasB (i : Int) cut then dropFrom cut (i + 1) t else x :: dropFrom cut (i + 1) t
theorem dropFrom_length {α : Type} (cut : List Int) : ∀ (l : List α) (i : Nat), (dropFrom cut i l).length ≤ l.length
  | [], _ => by simp [dropFrom]
  | x :: t, i => by
    have := dropFrom_length cut t (i + 1)
    unfold dropFrom
    split <;> simp <;> omega
theorem dropFrom_sub {α : Type} (cut : List Int) : ∀ (l : List α) (i : Nat), ∀ x ∈ dropFrom cut i l, x ∈ l
  | [], _, _, h => by simp [dropFrom] at h
  | y :: t, i, x, h => by
    unfold dropFrom at h
    split at h
    · exact List.mem_cons_of_mem _ (dropFrom_sub cut t _ x h)
    · rcases List.mem_cons.1 h with rfl | h
      · simp
      · exact List.mem_cons_of_mem _ (dropFrom_sub cut t _ x h)
theorem dropFrom_one {α : Type} : ∀ (l : List α) (i j : Nat), dropFrom [((i + j : Nat) : Int)] i l = l.eraseIdx j
  | [], i, j => by simp [dropFrom]
  | x :: t, i, 0 => by
    have h : ∀ (t : List α) (k : Nat), i < k → dropFrom [(i : Int)] k t = t := by
      intro t
      induction t with
      | nil => intro k _; rfl
      | cons y t ih => intro k hk; simp [dropFrom, hasB, show ¬ (k : Int) = (i : Int) by omega, ih (k + 1) (by omega)]
    simp [dropFrom, hasB, h t (i + 1) (by omega)]
  | x :: t, i, j + 1 => by
    have h := dropFrom_one t (i + 1) j
    rw [show i + 1 + j = i + (j + 1) by omega] at h
    have hne : hasB (i : Int) [((i + (j + 1) : Nat) : Int)] = false := by
      simp only [hasB, List.any_cons, List.any_nil, Bool.or_false, decide_eq_false_iff_not]; omega
    simp only [dropFrom, hne, Bool.false_eq_true, if_false, h, List.eraseIdx_cons_succ]

theorem edgesB_open {m : Int} : ∀ (l : List (Int × Int × Int)) (o : Option (Int × Int × Int)), edgesB m o l = true → ∀ x ∈ l, 0 ≤ x.1 ∧ x.1 < x.2.1 ∧ x.2.1 ≤ m ∧ 1 ≤ x.2.2 ∧ x.2.2 ≤ 100
  | [], _, _, x, hx => by simp at hx
  | y :: t, o, h, x, hx => by
    simp only [edgesB_cons, Bool.and_eq_true, inB_iff, decide_eq_true_eq] at h
    rcases List.mem_cons.1 hx with rfl | hx
    · omega
    · exact edgesB_open t _ h.2 x hx
theorem goodE_open {n : Int} {l : List (Int × Int × Int)} (h : goodE n l = true) : ∃ m : Nat, n = (m : Int) ∧ 1 ≤ m ∧ m ≤ 12 ∧ (∀ x ∈ l, 0 ≤ x.1 ∧ x.1 < x.2.1 ∧ x.2.1 < (m : Int) ∧ 1 ≤ x.2.2 ∧ x.2.2 ≤ 100) ∧ l.length ≤ 40 := by
  simp only [goodE, Bool.and_eq_true, inB_iff, decide_eq_true_eq] at h
  obtain ⟨h1, h2, h3⟩ := h
  refine ⟨n.toNat, by omega, by omega, by omega, fun x hx => ?_, h3⟩
  rw [w64 (n := n - 1) (by omega) (by omega)] at h1
  have := edgesB_open l none h1 x hx
  omega

end Go.Proofs.Ythambdfgkfkcmaa.Q
