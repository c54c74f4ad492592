/- The plain statement behind the law FnExactWithoutSpot of the program: for all arguments the law answers true. -/
import Derived.Test.YtogpnannjpdllaaPFnExactWithoutSpotx0
import Derived.Test.YtogpnannjpdllaaPFnExactWithoutSpotx1
import Derived.Test.YtogpnannjpdllaaPFnExactWithoutSpotx2
import Derived.Test.YtogpnannjpdllaaPFnExactWithoutSpotx3
import Derived.Test.YtogpnannjpdllaaPFnExactWithoutSpotx4
import Derived.Test.YtogpnannjpdllaaPFnExactWithoutSpotx5
import Derived.Test.YtogpnannjpdllaaQBase
namespace Go.Proofs.Ytogpnannjpdllaa.Pure
open Go.RowKit Go.Proofs.Ytogpnannjpdllaa.PFnExactWithoutSpot Go.Proofs.YtogpnannjpdllaaW.PrintWords Go.Proofs.Ytogpnannjpdllaa.Q
set_option linter.unusedVariables false
set_option linter.unusedSimpArgs false

theorem rdE_at (p : List S58) (x : S58) (t : List S58) : rd_T58 (p ++ x :: t) (p.length : Int) = x := by simp [rd_T58]
/-- The ends and the cost. -/
def trip (e : S58) : Int × Int × Int := (e.f0, e.f1, e.f2)
theorem etaE (x : S58) : (⟨x.f0, x.f1, x.f2⟩ : S58) = x := rfl
/-- The ends alone. -/
def ends (l : List S58) : List (Int × Int) := l.map fun e => (e.f0, e.f1)

theorem rdLE_at (p : List S60) (x : S60) (t : List S60) : rd_T60 (p ++ x :: t) (p.length : Int) = x := by simp [rd_T60]
def toE (e : S60) : S58 := ⟨e.f0, e.f1, e.f2⟩
def G60 (x : S60) : Prop := (Lit.int .i64 x.f0).wf = true ∧ (Lit.int .i64 x.f1).wf = true ∧ (Lit.int .i64 x.f2).wf = true

/-! laws_szEdgeS -/
theorem laws_szEdgeS_eq (l : List S60) (h : l.length ≤ maxLen) : laws_szEdgeS.f l 1048576 = some (if (l.length : Int) > 1048576 then -1 else 1048576 - (l.length : Int)) := by
  unfold laws_szEdgeS.f
  unfold maxLen at h
  rw [w64 (by omega) (by omega)]
  split <;> split <;> first | rfl | omega

/-! spec_l1In -/
theorem spec_l1In_eq (a b c : Int) : spec_l1In.f a b c = some (inB b c a) := by
  unfold spec_l1In.f inB
  by_cases h1 : a ≥ b <;> by_cases h2 : a ≤ c <;> simp [h1, h2] <;> omega

/-! spec_GoodEdges -/
theorem spec_GoodEdges_loop (n : Int) (t : List S58) : ∀ p : List S58, (p ++ t).length ≤ 9223372036854775806 → Ev (fun k => spec_GoodEdges.l0 k n (p ++ t) (p ++ t) ((p ++ t).length : Int) (p.length : Int)) (edgesB (wrap64 (n - 1)) (p.getLast?.map trip) (t.map trip) && (inB 1 12 n && decide ((p ++ t).length ≤ 40))) := by
  induction t with
  | nil =>
    intro p _
    refine ev_succ.1 ?_
    simp only [spec_GoodEdges.l0, c_end, Int.lt_irrefl, if_false, ev_some, spec_l1In_eq, Option.bind_some, ev_ite]
    have e : (decide (((p ++ []).length : Int) ≤ 40)) = decide ((p ++ []).length ≤ 40) := decide_eq_decide.2 (by omega)
    rw [e]
    simp only [List.map_nil, edgesB_nil, Bool.true_and]
    cases inB 1 12 n <;> simp
  | cons x t ih =>
    intro p hb
    refine ev_succ.1 ?_
    have hn := ih (p ++ [x]) (by rwa [← c_app])
    rw [← c_app] at hn
    simp only [List.getLast?_append, List.getLast?_singleton, Option.some_or, Option.map_some] at hn
    simp only [spec_GoodEdges.l0, c_lt, c_nn, rdE_at, if_true, spec_l1In_eq, Option.bind_some, ev_ite]
    have hj : ∀ b, Ev (fun k => spec_GoodEdges.j1 k n (p ++ x :: t) (p.length : Int) (p ++ x :: t) ((p ++ x :: t).length : Int) (p.length : Int) b x.f0 x.f1 x.f2) (!b && behindB (p.getLast?.map trip) (trip x) && (edgesB (wrap64 (n - 1)) (some (trip x)) (t.map trip) && (inB 1 12 n && decide ((p ++ x :: t).length ≤ 40)))) := by
      intro b
      refine ev_succ.1 ?_
      simp only [spec_GoodEdges.j1, c_next _ _ _ hb, ev_ite, ev_some]
      cases b
      · rcases List.eq_nil_or_concat p with rfl | ⟨q, y, rfl⟩
        · simpa [behindB] using hn
        · simp only [List.concat_eq_append] at *
          have e1 : wrap64 (((q ++ [y]).length : Int) - 1) = (q.length : Int) := by
            simp only [List.length_append, List.length_cons, List.length_nil] at hb ⊢
            unfold wrap64; omega
          have e2 : rd_T58 (q ++ [y] ++ x :: t) (q.length : Int) = y := by rw [← c_app]; exact rdE_at _ _ _
          have e3 : ((q.length : Int) < ((q ++ [y] ++ x :: t).length : Int)) = True := by rw [← c_app]; exact c_lt _ _ _
          have e4 : (((q ++ [y]).length : Int) > 0) = True := eq_true (by simp)
          simp only [e1, e2, e3, e4, c_nn, if_true, Bool.false_eq_true, if_false, List.getLast?_append, List.getLast?_singleton, Option.some_or, Option.map_some]
          by_cases h1 : y.f0 > x.f0
          · simp [h1, behindB, trip, show ¬ y.f0 < x.f0 by omega, show ¬ y.f0 = x.f0 by omega]
          · by_cases h2 : y.f0 = x.f0
            · by_cases h3 : y.f1 ≥ x.f1
              · simp [h2, h3, behindB, trip, show ¬ y.f1 < x.f1 by omega]
              · simp only [h1, h2, h3, if_true, if_false]
                simpa [h2, behindB, trip, show y.f1 < x.f1 by omega] using hn
            · simp only [h1, h2, if_false]
              simpa [h2, behindB, trip, show y.f0 < x.f0 by omega] using hn
      · simp
    have h0 := hj false
    have h1 := hj true
    have h2 := hj (!inB 1 100 x.f2)
    simp only [List.map_cons, edgesB_cons]
    simp only [trip] at h0 h1 h2 ⊢
    cases inB 0 (wrap64 (n - 1)) x.f0 <;> cases inB 0 (wrap64 (n - 1)) x.f1
    · simpa using h1
    · simpa using h1
    · simpa using h1
    · by_cases h3 : x.f0 ≥ x.f1
      · simp only [h3, if_true]; simpa [show ¬ x.f0 < x.f1 by omega] using h1
      · simp only [h3, if_true, if_false]
        simpa [show x.f0 < x.f1 by omega, Bool.and_assoc] using h2
theorem spec_GoodEdges_ev (n : Int) (l : List S58) (h : l.length ≤ 9223372036854775806) : Ev (fun k => spec_GoodEdges.f k n l) (goodE n (l.map trip)) := by
  unfold goodE spec_GoodEdges.f
  simpa using spec_GoodEdges_loop n l [] h

/-! spec_l16Spot -/
theorem spec_l16Spot_loop (n : Int) (t : List S58) : ∀ (p o : List S58), (p ++ t).length ≤ 5864062014804 → o.length ≤ p.length → Ev (fun k => spec_l16Spot.l0 k n o (p ++ t) ((p ++ t).length : Int) (p.length : Int)) (o ++ t.filter (fun x => decide (x.f0 ≠ n) && decide (x.f1 ≠ n))) := by
  induction t with
  | nil =>
    intro p o _ _
    refine ev_succ.1 ?_
    simp only [spec_l16Spot.l0, c_end, Int.lt_irrefl, if_false, ev_some]
    simp
  | cons x t ih =>
    intro p o hb ho
    refine ev_succ.1 ?_
    have hl : (o.length < 5864062014805) = True := eq_true (by simp at hb; omega)
    simp only [spec_l16Spot.l0, c_lt, c_nn, rdE_at, etaE, c_next p x t (by omega), if_true, ev_ite, hl]
    have h1 := ih (p ++ [x]) o (by rwa [← c_app]) (by simp; omega)
    have h2 := ih (p ++ [x]) (o ++ [x]) (by rwa [← c_app]) (by simp; omega)
    rw [← c_app] at h1 h2
    by_cases h3 : x.f0 = n
    · simpa [h3] using h1
    · by_cases h4 : x.f1 = n
      · simpa [h3, h4] using h1
      · simpa [h3, h4] using h2
theorem spec_l16Spot_ev (l : List S58) (n : Int) (h : l.length ≤ 5864062014804) : Ev (fun k => spec_l16Spot.f k l n) (l.filter (fun x => decide (x.f0 ≠ n) && decide (x.f1 ≠ n))) := by
  simpa [spec_l16Spot.f] using spec_l16Spot_loop n l [] [] h (by simp)

/-! spec_WithoutSpot -/
theorem spec_WithoutSpot_ev (n : Int) (l : List S58) (a : Int) (h : l.length ≤ 5864062014804) : Ev (fun k => spec_WithoutSpot.f k n l a) (if goodE n (l.map trip) && inB 0 (wrap64 (n - 1)) a then (l.filter (fun x => decide (x.f0 ≠ a) && decide (x.f1 ≠ a)), true) else ([], false)) := by
  unfold spec_WithoutSpot.f
  simp only [ev_bind (spec_GoodEdges_ev n l (by omega)), spec_l1In_eq, Option.bind_some, ev_bind (spec_l16Spot_ev l a h), ev_ite, ev_some]
  cases goodE n (l.map trip) <;> cases inB 0 (wrap64 (n - 1)) a <;> rfl

/-! laws_toEdge -/

/-! laws_toEdgeS -/
theorem laws_toEdgeS_loop (t : List S60) : ∀ (p : List S60), (p ++ t).length ≤ 9223372036854775806 → Ev (fun k => laws_toEdgeS.l0 k (p ++ t) (p.map toE ++ List.replicate t.length z58) (p.length : Int)) ((p ++ t).map toE) := by
  induction t with
  | nil =>
    intro p _
    refine ev_succ.1 ?_
    simp only [laws_toEdgeS.l0, c_end, Int.lt_irrefl, if_false, ev_some, List.length_nil, List.replicate_zero, List.append_nil]
  | cons x t ih =>
    intro p hb
    refine ev_succ.1 ?_
    have e : p.map toE ++ List.replicate (x :: t).length z58 = p.map toE ++ z58 :: List.replicate t.length z58 := rfl
    have e2 : (p.length : Int) = ((p.map toE).length : Int) := by simp
    have e3 : (p.length : Int) < ((p.map toE ++ z58 :: List.replicate t.length z58).length : Int) := by simp; omega
    have e4 : ∀ y, (p.map toE ++ z58 :: List.replicate t.length z58).set ((p.length : Int)).toNat y = (p.map toE ++ [y]) ++ List.replicate t.length z58 := by intro y; rw [e2]; exact c_set _ _ _ _
    simp only [laws_toEdgeS.l0, laws_toEdge.f, e, e3, e4, c_lt, c_nn, rdLE_at, c_next _ _ _ hb, if_true, Option.bind_some]
    have := ih (p ++ [x]) (by rwa [← c_app])
    rw [← c_app, List.map_append] at this
    exact this
theorem laws_toEdgeS_ev (l : List S60) (h : l.length ≤ 11728124029610) : Ev (fun k => laws_toEdgeS.f k l) (l.map toE) := by
  unfold laws_toEdgeS.f
  simp only [Int.toNat_natCast, h, c_nn, if_true]
  exact laws_toEdgeS_loop l [] (by simp; omega)

/-! impl_in -/
theorem impl_in_eq (a b c : Int) : impl_in.f a b c = some (inB b c a) := by
  unfold impl_in.f inB
  by_cases h1 : a ≥ b <;> by_cases h2 : a ≤ c <;> simp [h1, h2] <;> omega

/-! impl_byEnds -/

/-! impl_isSpots -/
theorem impl_isSpots_eq (a : Int) : impl_isSpots.f a = some (inB 1 12 a) := by
  unfold impl_isSpots.f
  rw [impl_in_eq]; rfl

/-! impl_GoodEdges -/
theorem impl_byEnds_neg (m : Int) (hm : m ≤ 9223372036854775807) (y x : S58) (h : (inB 0 m y.f0 && inB 0 m y.f1 && inB 0 m x.f0 && inB 0 m x.f1) = true) : ∃ r, impl_byEnds.f y.f0 y.f1 y.f2 x.f0 x.f1 x.f2 = some r ∧ (r ≥ 0 ↔ ¬ (y.f0 < x.f0 ∨ (y.f0 = x.f0 ∧ y.f1 < x.f1))) := by
  simp only [Bool.and_eq_true, inB_iff] at h
  unfold impl_byEnds.f
  split
  · exact ⟨_, rfl, by rw [w64 (by omega) (by omega)]; omega⟩
  · exact ⟨_, rfl, by rw [w64 (by omega) (by omega)]; omega⟩
theorem impl_GoodEdges_loop (n : Int) (t : List S58) : ∀ p : List S58, (p ++ t).length ≤ 9223372036854775806 → (∀ y ∈ p, (inB 0 (wrap64 (n - 1)) y.f0 && inB 0 (wrap64 (n - 1)) y.f1) = true) → Ev (fun k => impl_GoodEdges.l0 k n (p ++ t) (p ++ t) ((p ++ t).length : Int) (p.length : Int)) (edgesB (wrap64 (n - 1)) (p.getLast?.map trip) (t.map trip) && (inB 1 12 n && decide ((p ++ t).length ≤ 40))) := by
  induction t with
  | nil =>
    intro p _ _
    refine ev_succ.1 ?_
    simp only [impl_GoodEdges.l0, c_end, Int.lt_irrefl, if_false, ev_some, impl_isSpots_eq, Option.bind_some, ev_ite]
    have e : (decide (((p ++ []).length : Int) ≤ 40)) = decide ((p ++ []).length ≤ 40) := decide_eq_decide.2 (by omega)
    rw [e]
    simp only [List.map_nil, edgesB_nil, Bool.true_and]
    cases inB 1 12 n <;> simp
  | cons x t ih =>
    intro p hb hp
    refine ev_succ.1 ?_
    simp only [impl_GoodEdges.l0, c_lt, c_nn, rdE_at, c_next _ _ _ hb, if_true, impl_in_eq, Option.bind_some, ev_ite, List.map_cons, edgesB_cons]
    cases h1 : inB 0 (wrap64 (n - 1)) x.f0
    · simp [ev_some, trip, h1]
    cases h2 : inB 0 (wrap64 (n - 1)) x.f1
    · simp [ev_some, trip, h2]
    by_cases h3 : x.f0 ≥ x.f1
    · simp [ev_some, trip, h3, show ¬ x.f0 < x.f1 by omega]
    cases h4 : inB 1 100 x.f2
    · simp [ev_some, trip, h3, h4]
    have hn := ih (p ++ [x]) (by rwa [← c_app]) (by
      intro y hy
      rcases List.mem_append.1 hy with hy | hy
      · exact hp y hy
      · rw [List.mem_singleton.1 hy, h1, h2]; rfl)
    rw [← c_app] at hn
    simp only [List.getLast?_append, List.getLast?_singleton, Option.some_or, Option.map_some] at hn
    simp only [h3, if_true, if_false]
    rcases List.eq_nil_or_concat p with rfl | ⟨q, y, rfl⟩
    · simpa [behindB, trip, h1, h2, h4, show x.f0 < x.f1 by omega] using hn
    · simp only [List.concat_eq_append] at *
      have e1 : wrap64 (((q ++ [y]).length : Int) - 1) = (q.length : Int) := by
        simp only [List.length_append, List.length_cons, List.length_nil] at hb ⊢
        unfold wrap64; omega
      have e2 : rd_T58 (q ++ [y] ++ x :: t) (q.length : Int) = y := by rw [← c_app]; exact rdE_at _ _ _
      have e3 : ((q.length : Int) < ((q ++ [y] ++ x :: t).length : Int)) = True := by rw [← c_app]; exact c_lt _ _ _
      have e4 : (((q ++ [y]).length : Int) > 0) = True := eq_true (by simp)
      obtain ⟨r, hr, hr2⟩ := impl_byEnds_neg (wrap64 (n - 1)) (by unfold wrap64; omega) y x (by rw [hp y (by simp), h1, h2]; rfl)
      simp only [e1, e2, e3, e4, c_nn, if_true, hr, Option.bind_some, List.getLast?_append, List.getLast?_singleton, Option.some_or, Option.map_some, ev_some]
      by_cases h5 : r ≥ 0
      · simp only [h5, if_true]
        have := hr2.1 h5
        simp [behindB, trip, this, ev_some]
      · simp only [h5, if_false]
        have : (y.f0 < x.f0 ∨ (y.f0 = x.f0 ∧ y.f1 < x.f1)) := Decidable.byContradiction fun hc => h5 (hr2.2 hc)
        simpa [behindB, trip, this, h1, h2, h4, show x.f0 < x.f1 by omega] using hn
theorem impl_GoodEdges_ev (n : Int) (l : List S58) (h : l.length ≤ 9223372036854775806) : Ev (fun k => impl_GoodEdges.f k n l) (goodE n (l.map trip)) := by
  unfold goodE impl_GoodEdges.f
  simpa using impl_GoodEdges_loop n l [] h (by simp)

/-! impl_allIn -/
theorem impl_allIn_loop (lo hi : Int) (t : List Int) : ∀ p : List Int, (p ++ t).length ≤ 9223372036854775806 → Ev (fun k => impl_allIn.l0 k lo hi (p ++ t) ((p ++ t).length : Int) (p.length : Int)) (allB lo hi t) := by
  induction t with
  | nil =>
    intro p _
    refine ev_succ.1 ?_
    simp only [impl_allIn.l0, c_end, Int.lt_irrefl, if_false, ev_some]
    simp [allB_nil]
  | cons x t ih =>
    intro p hb
    refine ev_succ.1 ?_
    have hn := ih (p ++ [x]) (by rwa [← c_app])
    simp only [impl_allIn.l0, c_lt, c_nn, c_rd, c_next _ _ _ hb, if_true, impl_in_eq, Option.bind_some, ev_ite, ev_some]
    rw [← c_app] at hn
    cases h1 : inB lo hi x
    · simp [h1, allB_cons]
    · simpa [h1, allB_cons] using hn
theorem impl_allIn_ev (lo hi : Int) (l : List Int) (h : l.length ≤ 9223372036854775806) : Ev (fun k => impl_allIn.f k l lo hi) (allB lo hi l) := impl_allIn_loop lo hi l [] h

/-! impl_goodAt -/
theorem impl_goodAt_ev (n : Int) (l : List S58) (at_ : List Int) (h : l.length ≤ 9223372036854775806) (h2 : at_.length ≤ 9223372036854775806) : Ev (fun k => impl_goodAt.f k n l at_) (goodE n (l.map trip) && allB 0 (wrap64 (n - 1)) at_) := by
  unfold impl_goodAt.f
  simp only [ev_bind (impl_GoodEdges_ev n l h), ev_bind (impl_allIn_ev 0 (wrap64 (n - 1)) at_ h2), ev_ite, ev_some]
  cases goodE n (l.map trip) <;> simp

/-! impl_withoutSpot -/
theorem impl_withoutSpot_loop (n : Int) (t : List S58) : ∀ (p o : List S58), (p ++ t).length ≤ 5864062014804 → o.length ≤ p.length → Ev (fun k => impl_withoutSpot.l0 k n o (p ++ t) ((p ++ t).length : Int) (p.length : Int)) (o ++ t.filter (fun x => decide (x.f0 ≠ n) && decide (x.f1 ≠ n))) := by
  induction t with
  | nil =>
    intro p o _ _
    refine ev_succ.1 ?_
    simp only [impl_withoutSpot.l0, c_end, Int.lt_irrefl, if_false, ev_some]
    simp
  | cons x t ih =>
    intro p o hb ho
    refine ev_succ.1 ?_
    have hl : (o.length < 5864062014805) = True := eq_true (by simp at hb; omega)
    simp only [impl_withoutSpot.l0, c_lt, c_nn, rdE_at, etaE, c_next p x t (by omega), if_true, ev_ite, hl]
    have h1 := ih (p ++ [x]) o (by rwa [← c_app]) (by simp; omega)
    have h2 := ih (p ++ [x]) (o ++ [x]) (by rwa [← c_app]) (by simp; omega)
    rw [← c_app] at h1 h2
    by_cases h3 : x.f0 = n
    · simpa [h3] using h1
    · by_cases h4 : x.f1 = n
      · simpa [h3, h4] using h1
      · simpa [h3, h4] using h2
theorem impl_withoutSpot_ev (l : List S58) (n : Int) (h : l.length ≤ 5864062014804) : Ev (fun k => impl_withoutSpot.f k l n) (l.filter (fun x => decide (x.f0 ≠ n) && decide (x.f1 ≠ n))) := by
  simpa [impl_withoutSpot.f] using impl_withoutSpot_loop n l [] [] h (by simp)

/-! impl_WithoutSpot -/
theorem impl_WithoutSpot_ev (n : Int) (l : List S58) (a : Int) (h : l.length ≤ 5864062014804) : Ev (fun k => impl_WithoutSpot.f k n l a) (if goodE n (l.map trip) && inB 0 (wrap64 (n - 1)) a then (l.filter (fun x => decide (x.f0 ≠ a) && decide (x.f1 ≠ a)), true) else ([], false)) := by
  unfold impl_WithoutSpot.f
  simp only [ev_bind (impl_goodAt_ev n l [a] (by omega) (by simp)), ev_bind (impl_withoutSpot_ev l a h), ev_ite, ev_some, allB_cons, allB_nil, Bool.and_true]
  cases goodE n (l.map trip) <;> cases inB 0 (wrap64 (n - 1)) a <;> rfl

/-! laws_eqEdge -/

/-! laws_eqEdgeS -/
theorem laws_eqEdgeS_loop (t : List S58) : ∀ p : List S58, (p ++ t).length ≤ 9223372036854775806 → Ev (fun k => laws_eqEdgeS.l0 k (p ++ t) (p ++ t) (p.length : Int)) true := by
  induction t with
  | nil =>
    intro p _
    refine ev_succ.1 ?_
    simp only [laws_eqEdgeS.l0, c_end, Int.lt_irrefl, if_false, ev_some]
  | cons x t ih =>
    intro p hb
    refine ev_succ.1 ?_
    simp only [laws_eqEdgeS.l0, laws_eqEdge.f, Option.bind_some, c_lt, c_nn, c_next _ _ _ hb, if_true]
    rw [c_app p x t]
    exact ih (p ++ [x]) (by rwa [← c_app])
theorem laws_eqEdgeS_ev (l : List S58) (h : l.length ≤ 9223372036854775806) : Ev (fun k => laws_eqEdgeS.f k l l) true := by
  unfold laws_eqEdgeS.f
  simp only [if_true]
  exact laws_eqEdgeS_loop l [] h

/-! laws_markEdgeS -/
def marksE : Nat → Int → List S58
  | 0, _ => []
  | n + 1, a => ⟨a, a + 1, a + 2⟩ :: marksE n (a + 3)
theorem marksE_length (n : Nat) : ∀ a, (marksE n a).length = n := by
  induction n with
  | zero => intro a; rfl
  | succ n ih => intro a; simp [marksE, ih]
theorem laws_markEdgeS_loop (t : List S58) : ∀ (q : List S58) (a : Int), (q ++ t).length ≤ 9223372036854775806 → 0 ≤ a → a + 3 * t.length ≤ 9223372036854775807 → Ev (fun k => laws_markEdgeS.l0 k (q ++ t) a (q.length : Int)) (a + 3 * t.length, q ++ marksE t.length a) := by
  induction t with
  | nil =>
    intro q a _ _ _
    refine ev_succ.1 ?_
    simp only [laws_markEdgeS.l0, c_end, Int.lt_irrefl, if_false, ev_some]
    simp [marksE]
  | cons x t ih =>
    intro q a hb h0 h1
    refine ev_succ.1 ?_
    simp only [List.length_cons] at h1
    simp only [laws_markEdgeS.l0, c_lt, c_nn, rdE_at, c_set, ← c_app, Option.bind_some, c_next _ _ _ hb, if_true]
    rw [w64 (n := a + 1) (by omega) (by omega), w64 (n := a + 1 + 1) (by omega) (by omega), w64 (n := a + 1 + 1 + 1) (by omega) (by omega), show ((q ++ [x]).length : Int) = ((q ++ [(⟨a, a + 1, a + 2⟩ : S58)]).length : Int) by simp]
    have := ih (q ++ [⟨a, a + 1, a + 2⟩]) (a + 3) (by simpa using hb) (by omega) (by omega)
    rw [show a + 3 * ((x :: t).length : Int) = a + 3 + 3 * (t.length : Int) by simp; omega, show q ++ marksE (x :: t).length a = (q ++ [⟨a, a + 1, a + 2⟩]) ++ marksE t.length (a + 3) by simp [marksE]]
    rw [show a + 1 + 1 = a + 2 by omega, show a + 2 + 1 = a + 3 by omega]
    rw [← c_app] at this
    exact this
theorem laws_markEdgeS_ev (l : List S58) (a : Int) (h : l.length ≤ 9223372036854775806) (h0 : 0 ≤ a) (h1 : a + 3 * l.length ≤ 9223372036854775807) : Ev (fun k => laws_markEdgeS.f k l a) (a + 3 * l.length, marksE l.length a) := laws_markEdgeS_loop l [] a h h0 h1

/-! laws_heldEdgeS -/
theorem laws_heldEdgeS_loop (n : Nat) : ∀ (p : List S58) (a : Int), p.length + n ≤ 9223372036854775806 → 0 ≤ a → a + 3 * n ≤ 9223372036854775807 → Ev (fun k => laws_heldEdgeS.l0 k (p ++ marksE n a) a (p.length : Int)) (a + 3 * n) := by
  induction n with
  | zero =>
    intro p a _ _ _
    refine ev_succ.1 ?_
    simp only [laws_heldEdgeS.l0, marksE, c_end, Int.lt_irrefl, if_false, ev_some]
    simp
  | succ n ih =>
    intro p a hb h0 h1
    refine ev_succ.1 ?_
    simp only [laws_heldEdgeS.l0, marksE, c_lt, c_nn, rdE_at, if_true]
    rw [w64 (n := a + 1) (by omega) (by omega), w64 (n := a + 1 + 1) (by omega) (by omega), w64 (n := a + 1 + 1 + 1) (by omega) (by omega), c_next p (⟨a, a + 1, a + 2⟩ : S58) (marksE n (a + 3)) (by simp [marksE_length]; omega), c_app p (⟨a, a + 1, a + 2⟩ : S58) (marksE n (a + 3)), show a + 1 + 1 = a + 2 by omega, show a + 2 + 1 = a + 3 by omega]
    have := ih (p ++ [⟨a, a + 1, a + 2⟩]) (a + 3) (by simp; omega) (by omega) (by omega)
    rw [show a + 3 * ((n + 1 : Nat) : Int) = a + 3 + 3 * (n : Int) by omega]
    simpa using this
theorem laws_heldEdgeS_ev (n : Nat) (a : Int) (h : n ≤ 9223372036854775806) (h0 : 0 ≤ a) (h1 : a + 3 * n ≤ 9223372036854775807) : Ev (fun k => laws_heldEdgeS.f k (marksE n a) a) (a + 3 * n) := by
  unfold laws_heldEdgeS.f
  exact laws_heldEdgeS_loop n [] a (by simpa using h) h0 h1

/-! laws_FnExactWithoutSpot -/
theorem FnExactWithoutSpot (n : Int) (l0 : List S60) (a : Int) (_ : (Lit.int .i64 n).wf = true) (hl : l0.length ≤ maxLen ∧ ∀ y ∈ l0, G60 y) (_ : (Lit.int .i64 a).wf = true) : ∃ k, laws_FnExactWithoutSpot.f k n l0 a = some true := by
  refine Ev.rounds ?_
  unfold laws_FnExactWithoutSpot.f
  simp only [laws_szEdgeS_eq l0 hl.1, Option.bind_some]
  by_cases hbig : (l0.length : Int) > 1048576
  · simp only [hbig, if_true]; exact Ev.now _
  have hc : ¬ ((1048576 : Int) - (l0.length : Int) < 0) := by omega
  have hs : (l0.map toE).length ≤ 1048576 := by simp; omega
  have hto := laws_toEdgeS_ev l0 (by omega)
  simp only [hbig, hc, if_false, ev_bind hto]
  generalize l0.map toE = l at hs hto ⊢
  have hi := impl_WithoutSpot_ev n l a (by omega)
  have hw := spec_WithoutSpot_ev n l a (by omega)
  have hv1 : (if goodE n (l.map trip) && inB 0 (wrap64 (n - 1)) a then (l.filter (fun x => decide (x.f0 ≠ a) && decide (x.f1 ≠ a)), true) else ([], false)).1.length ≤ 1048576 := by
    split
    · exact Nat.le_trans (List.length_filter_le _ _) hs
    · simp
  generalize (if goodE n (l.map trip) && inB 0 (wrap64 (n - 1)) a then (l.filter (fun x => decide (x.f0 ≠ a) && decide (x.f1 ≠ a)), true) else ([], false)) = v at hv1 hi hw
  obtain ⟨r1, r2⟩ := v
  simp only at hv1
  simp only [ev_bind hto, ev_bind hw, ev_bind hi, ev_bind (laws_eqEdgeS_ev r1 (by omega)), if_true, bne_self_eq_false]
  refine ev_succ.1 ?_
  simp only [laws_FnExactWithoutSpot.j0, Bool.false_eq_true, if_false, if_true, bne_self_eq_false, ev_bind hto, ev_bind (laws_eqEdgeS_ev l (by omega)), ev_bind (laws_eqEdgeS_ev r1 (by omega)), ev_bind (laws_markEdgeS_ev l 1 (by omega) (by omega) (by omega)), show (1 + 3 * (l.length : Int) < 0) = False from eq_false (by omega)]
  refine ev_succ.1 ?_
  simp only [laws_FnExactWithoutSpot.j1, Bool.false_eq_true, if_false, if_true, bne_self_eq_false, ev_bind (laws_markEdgeS_ev r1 1 (by omega) (by omega) (by omega)), ev_bind (laws_heldEdgeS_ev r1.length 1 (by omega) (by omega) (by omega)), show (1 + 3 * (r1.length : Int) < 0) = False from eq_false (by omega), ev_bind hto, ev_bind hi, ev_bind (laws_eqEdgeS_ev r1 (by omega))]
  refine ev_succ.1 ?_
  simp only [laws_FnExactWithoutSpot.j2, Bool.false_eq_true, if_false, if_true, bne_self_eq_false, ev_bind (laws_heldEdgeS_ev r1.length 1 (by omega) (by omega) (by omega)), show (1 + 3 * (r1.length : Int) < 0) = False from eq_false (by omega)]
  exact Ev.now _

end Go.Proofs.Ytogpnannjpdllaa.Pure
