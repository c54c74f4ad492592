import Derived.Test.YtefdgdloghhnaaaF0
import Derived.Test.YtefdgdloghhnaaaF1
import Derived.Test.YtefdgdloghhnaaaF3
import Derived.Test.YtefdgdloghhnaaaF4
namespace Go.Proofs.Ytefdgdloghhnaaa.P
open Go.RowKit Go.Proofs.YtefdgdloghhnaaaW.PrintWords Go.Proofs.YtefdgdloghhnaaaW.PrintLast Go.Proofs.YtefdgdloghhnaaaW.PrintMore
attribute [local go_sem] max2_int min2_int max_two min_two max_three min_three max_four min_four   -- for this text's walks alone
set_option linter.unusedVariables false
set_option linter.unusedSimpArgs false
attribute [local go_sem high] eqA36

def spec_PlayPair.l0 : Nat → List Bool → List (S28) → Int → Int → List Int → List Int → List (S36) → Option (List Int × List Int × (List (S36)) × List Bool × Bool)
 | 0, _, _, _, _, _, _, _ => none
 | k + 1, x7, x20, x21, x22, x245000, x245001, x245002 => if x22 < x21 then (if 0 ≤ x22 then (if x22 < (x20.length : Int) then ((spec_l3Own.f x245000 x245001 x245002).bind fun bt256 => ((spec_l3Step.f k bt256.1 bt256.2.1 bt256.2.2 ((rd_T28 x20 x22).f0) ((rd_T28 x20 x22).f1)).bind fun bt265 => (if bt265.2.2.2 = true then (if x7.length < 140737488355328 then (spec_PlayPair.l0 k (x7 ++ [bt265.2.2.2]) x20 x21 (wrap64 (x22 + 1)) bt265.1 bt265.2.1 bt265.2.2.1) else (none)) else (if x7.length < 140737488355328 then (spec_PlayPair.l0 k (x7 ++ [bt265.2.2.2]) x20 x21 (wrap64 (x22 + 1)) x245000 x245001 x245002) else (none))))) else (none)) else (none)) else ((spec_l3Own.f x245000 x245001 x245002).bind fun bt245 => (some (bt245.1, bt245.2.1, bt245.2.2, x7, true)))
def spec_PlayPair.f (k : Nat) (l0 : List (S28)) : Option (List Int × List Int × (List (S36)) × List Bool × Bool) := if (l0.length : Int) > 60 then (some (([] : List Int), ([] : List Int), ([] : List (S36)), ([] : List Bool), false)) else ((spec_NewPair.f 0).bind fun bt234 => (spec_PlayPair.l0 k ([] : List Bool) l0 (l0.length : Int) 0 bt234.1 bt234.2.1 bt234.2.2.1))
theorem spec_PlayPair.mono_l : ∀ k, (∀ y0 y1 y2 y3 y4 y5 y6, LeO (spec_PlayPair.l0 k y0 y1 y2 y3 y4 y5 y6) (spec_PlayPair.l0 (k + 1) y0 y1 y2 y3 y4 y5 y6))
 | 0 => fun _ _ _ _ _ _ _ r h => by simp [spec_PlayPair.l0] at h
 | k + 1 => by
  have ih0 := spec_PlayPair.mono_l k
  ·intro y0 y1 y2 y3 y4 y5 y6
   unfold spec_PlayPair.l0
   repeat' first
   | (with_reducible exact ih0 _ _ _ _ _ _ _)
   | (with_reducible exact spec_l3Step.mono _ _ _ _ _ _)
   | with_reducible first | exact LeO.refl _ | exact LeO.none _ | refine LeO.ite ?_ ?_ | refine LeO.bind ?_ fun _ => ?_
theorem spec_PlayPair.mono : ∀ a0 k, LeO (spec_PlayPair.f k a0) (spec_PlayPair.f (k + 1) a0) := by
 intro a0 k
 have ih0 := spec_PlayPair.mono_l k
 unfold spec_PlayPair.f
 repeat' first
   | (with_reducible exact ih0 _ _ _ _ _ _ _)
   | (with_reducible exact spec_l3Step.mono _ _ _ _ _ _)
   | with_reducible first | exact LeO.refl _ | exact LeO.none _ | refine LeO.ite ?_ ?_ | refine LeO.bind ?_ fun _ => ?_
def spec_PlayPair.T8 : Bool × List (List Nat × List Nat) := (true, [([], []), ([0], [0]), ([], []), ([1, 2, 1], [1, 2]), ([3], [3]), ([4], [4]), ([4], [4]), ([], []), ([7, 5, 3, 0, 1, 2, 3, 4, 5, 7], [5, 7]), ([6, 8, 0, 1, 2, 3, 4, 5, 6, 7, 8], [6])])
def spec_PlayPair.B8 : List Nat := [0, 1, 0, 7, 15, 31, 31, 0, 191, 511]
theorem spec_PlayPair.tab8 : rtab .any (opsOf Try.f33 8) = spec_PlayPair.T8 := by kernel_rfl
theorem spec_PlayPair.bits8 : waitsOk spec_PlayPair.T8.2 spec_PlayPair.B8 = true := by kernel_rfl
set_option maxHeartbeats 8000000 in
set_option maxRecDepth 100000 in
theorem spec_PlayPair.calls (k : Nat) (A0 : Option Addr) (c0 : Nat) (l0 : List (S28)) (r1 : List Int) (r2 : List Int) (r3 : List (S36)) (r4 : List Bool) (r5 : Bool) (w : World) (hr0 : Kd.C k28 w A0 l0.length l0) (hc0 : l0.length ≤ c0) (h : spec_PlayPair.f k l0 = some (r1, r2, r3, r4, r5)) :
  Calls Try.prog 33 #[.slice A0 l0.length c0] w fun e w' => ∃ v0_ v1_ v2_ v3_ : Value, e = .returned (.tuple #[.agg #[v0_, v1_, v2_], v3_, .bool r5]) ∧ Kd.R (Kd.int .i64) 3 w' w.heap.size (fun k_ => no_ v1_ k_) v0_ r1 ∧ Kd.R (Kd.int .i64) 3 w' w.heap.size (fun k_ => no_ v0_ k_) v1_ r2 ∧ Kd.R k36 36 w' w.heap.size (fun _ => True) v2_ r3 ∧ Kd.R Kd.bool 4 w' w.heap.size (fun _ => True) v3_ r4 ∧ Below w.heap.size w w' := by
 have hu26 := Try.underlying26
 have hu28 := Try.underlying28
 have HR0 := Aside0.mk hr0
 have HC0 := Aside0.mk hc0
 clear hr0 hc0
 have HB := Aside0.mk (Below.refl w.heap.size w)
 have H : (if (l0.length : Int) > 60 then (some (([] : List Int), ([] : List Int), ([] : List (S36)), ([] : List Bool), false)) else ((spec_NewPair.f 0).bind fun bt234 => (spec_PlayPair.l0 k ([] : List Bool) l0 (l0.length : Int) 0 bt234.1 bt234.2.1 bt234.2.2.1))) = some (r1, r2, r3, r4, r5) := h
 clear h
 by_cases c2 : (l0.length : Int) > 60
 ·rw [if_pos c2] at H
  have c2b0 : decide (60 < (l0.length : Int)) = true := decide_eq_true c2
  have c2b1 : decide (60 < l0.length) = true := decide_eq_true (by omega)
  clear c2
  simp only [Option.some.injEq, Prod.mk.injEq] at H
  obtain ⟨rfl, rfl, rfl, rfl, rfl⟩ := H
  go_enter Try.func33, Try.ntmps33
  go_wp2_with (first | ((with_reducible refine gate_dst (N := 2) rfl ?_); refine bx_ev 2 #[.slice none 0 0, .slice none 0 0, .slice none 0 0] 26 ?_; intro gb233 hg w3 hbox hb; have BK233 := Aside0.mk (hbox); have GW233 := gw_ hg HB; have GE233 := gw_ hg HB; replace HB := bst_ HB hb; clear hb hbox hg; obtain ⟨hcz4_0, hcz4_1, hcz4_2⟩ := bcs3_ BK233; obtain ⟨hfz4_0, hfz4_1, hfz4_2⟩ := bz3_ BK233))
  refine bodyPost_ret (results_ctt rfl _ _ gb233 26 #[.slice none 0 0, .slice none 0 0, .slice none 0 0] (0, 0) _ rfl (bw0_ BK233) Try.underlying26 rfl (by kernel_rfl)) rfl ?_
  exact ⟨_, _, _, _, rt_, by first | exact Kd.R_nil _ _ _ _ _ | exact Kd.N_nil _ _ _ _ _ | exact Kd.V_nil _ _ _ _ _ | exact Kd.Q_nil _ _ _ _ _ | exact Kd.S_nil _ _ _ _ _, by first | exact Kd.R_nil _ _ _ _ _ | exact Kd.N_nil _ _ _ _ _ | exact Kd.V_nil _ _ _ _ _ | exact Kd.Q_nil _ _ _ _ _ | exact Kd.S_nil _ _ _ _ _, by first | exact Kd.R_nil _ _ _ _ _ | exact Kd.N_nil _ _ _ _ _ | exact Kd.V_nil _ _ _ _ _ | exact Kd.Q_nil _ _ _ _ _ | exact Kd.S_nil _ _ _ _ _, by first | exact Kd.R_nil _ _ _ _ _ | exact Kd.N_nil _ _ _ _ _ | exact Kd.V_nil _ _ _ _ _ | exact Kd.Q_nil _ _ _ _ _ | exact Kd.S_nil _ _ _ _ _, hB HB⟩
 rw [if_neg c2] at H
 have c2b0 : decide (60 < (l0.length : Int)) = false := decide_eq_false c2
 have c2b1 : decide (60 < l0.length) = false := decide_eq_false (by omega)
 clear c2
 replace H := Option.bind_eq_some_iff.mp H
 obtain ⟨⟨t234, t237, t240, t243⟩, A50, H⟩ := H
 replace H : (spec_PlayPair.l0 k ([] : List Bool) l0 (l0.length : Int) 0 t234 t237 t240) = some (r1, r2, r3, r4, r5) := H
 have A5 := Aside0.mk A50
 clear A50
 have H' := Aside0.mk H
 clear H
 go_enter Try.func33, Try.ntmps33
 go_wp2_with (first | ((with_reducible refine gate_dst (N := 2) rfl ?_); refine bx_ev 2 #[.slice none 0 0, .slice none 0 0, .slice none 0 0] 26 ?_; intro gb233 hg w6 hbox hb; have BK233 := Aside0.mk (hbox); have GW233 := gw_ hg HB; have GE233 := gw_ hg HB; replace HB := bst_ HB hb; clear hb hbox hg) | ((with_reducible refine gate_dst (N := 17) rfl ?_); refine goesL_ (some 17) rfl rfl Try.func17 (by kernel_rfl) rfl #[.int .i64 0] rfl tm_ ?_; (with_reducible refine (spec_NewPair.calls 0 t234 t237 t240 t243 _ A5.out).mono ?_); rintro e w7 ⟨v235, v238, v241, rfl, ho0, ho1, ho2, hb⟩; refine ⟨_, rfl, ?_⟩; have HO236 := Aside0.mk (Kd.R_lower ho0 (below_size (hB HB))); have HO239 := Aside0.mk (Kd.R_lower ho1 (below_size (hB HB))); have HO242 := Aside0.mk (Kd.R_lower ho2 (below_size (hB HB))); replace BK233 := bb_ BK233 hb; replace HB := bst_ HB hb; clear hb ho0 ho1 ho2) | ((with_reducible refine gate_dst (N := 5) rfl ?_); refine bx_ev 5 #[.slice none 0 0, .slice none 0 0, .slice none 0 0] 26 ?_; intro gb244 hg w8 hbox hb; have BK244 := Aside0.mk (hbox); have GW244 := gw_ hg HB; have GE244 := gw_ hg HB; have NB233_244 := nl_ hg BK233; have NB244_233 := ng_ hg BK233; replace HO236 := rb_ HO236 hb; replace HO239 := rb_ HO239 hb; replace HO242 := rb_ HO242 hb; replace BK233 := bb_ BK233 hb; replace HB := bst_ HB hb; clear hb hbox hg; obtain ⟨Ao9, co9, eo9⟩ := Kd.R_slice HO236.out; subst eo9; obtain ⟨hnb10, hnc10⟩ := nn_ NB244_233; obtain ⟨hcz11_0, hcz11_1, hcz11_2⟩ := bcs3_ BK244; obtain ⟨hfz11_0, hfz11_1, hfz11_2⟩ := bz3_ BK244; obtain ⟨Ao12, co12, eo12⟩ := Kd.R_slice HO239.out; subst eo12; obtain ⟨Ao13, co13, eo13⟩ := Kd.R_slice HO242.out; subst eo13))
 go_loopg [7, 22] k (fun kq v7 v22 w' => ∃ (x7_1 : List Bool) (x22_1 : Int) (x245000_1 : List Int) (x245001_1 : List Int) (x245002_1 : List (S36)) (u245000 : Value) (u245001 : Value) (u245002 : Value), v22 = .int .i64 x22_1 ∧ Aside0 (spec_PlayPair.l0 kq x7_1 l0 (l0.length : Int) x22_1 x245000_1 x245001_1 x245002_1 = some (r1, r2, r3, r4, r5)) ∧ Aside0 (kq ≤ k) ∧ Aside0 (Kd.R Kd.bool 4 w' w.heap.size (fun _ => True) v7 x7_1) ∧ Aside0 (Kd.R (Kd.int .i64) 3 w' w.heap.size (fun k_ => some k_ ≠ (u245001 : Value).ownBlock) u245000 x245000_1) ∧ Aside0 (Kd.R (Kd.int .i64) 3 w' w.heap.size (fun k_ => some k_ ≠ (u245000 : Value).ownBlock) u245001 x245001_1) ∧ Aside0 (Kd.R k36 36 w' w.heap.size (fun _ => True) u245002 x245002_1) ∧ Aside0 (w'.heap[gb233]? = some (.cells #[(.slice none 0 0), (.slice none 0 0), (.slice none 0 0)] 26 (0, 0))) ∧ Aside0 (w'.heap[gb244]? = some (.cells #[u245000, u245001, u245002] 26 (0, 0))) ∧ Aside0 (Below w.heap.size w w'))
 case atStart => exact ⟨(([] : List Bool)), (0), (t234), (t237), (t240), (.slice Ao9 t234.length co9), (.slice Ao12 t237.length co12), (.slice Ao13 t240.length co13), (by first | rfl | (simp; done) | (simp [*]; done)), H', ⟨Nat.le_refl _⟩, ⟨by first | exact Kd.R_nil _ _ _ _ _ | exact Kd.N_nil _ _ _ _ _ | exact Kd.V_nil _ _ _ _ _ | exact Kd.Q_nil _ _ _ _ _ | exact Kd.S_nil _ _ _ _ _⟩, ⟨ro_ (fs3_ HO236.out BK244.out) (fun _ hk => hk.1)⟩, ⟨ro_ (fs3_ HO239.out BK244.out) (fun _ hk => hk.1)⟩, ⟨ro_ (fs3_ HO242.out BK244.out) (fun _ hk => trivial)⟩, ⟨bw1_ BK233 NB233_244⟩, ⟨bw0_ BK244⟩, ⟨hB HB⟩⟩
 case round =>
  clear H'
  try clear c2
  try clear c2b0
  try clear c2b1
  try clear hcz11_0
  try clear hcz11_1
  try clear hcz11_2
  try clear hfz11_0
  try clear hfz11_1
  try clear hfz11_2
  obtain ⟨x7_1, x22_1, x245000_1, x245001_1, x245002_1, u245000, u245001, u245002, rfl, HA, HK1, HO_7, HO_245000, HO_245001, HO_245002, BK233, BK244, HB⟩ := hrel
  cases gk with
  | zero => exact absurd HA.out (by simp [spec_PlayPair.l0])
  | succ k1 =>
   have H := HA.out
   clear HA
   simp only [spec_PlayPair.l0] at H
   by_cases c14 : x22_1 < (l0.length : Int)
   rotate_left
   ·rw [if_neg c14] at H
    have c14b0 : decide (x22_1 < (l0.length : Int)) = false := decide_eq_false c14
    clear c14
    replace H := Option.bind_eq_some_iff.mp H
    obtain ⟨⟨t245, t248, t251⟩, A740, H⟩ := H
    replace H : (some (t245, t248, t251, x7_1, true)) = some (r1, r2, r3, r4, r5) := H
    have A74 := Aside0.mk A740
    clear A740
    simp only [Option.some.injEq, Prod.mk.injEq] at H
    obtain ⟨rfl, rfl, rfl, rfl, rfl⟩ := H
    obtain ⟨hnb75, hnc75⟩ := nn_ NB244_233
    obtain ⟨hcz76_0, hcz76_1, hcz76_2⟩ := bcs3_ BK244
    obtain ⟨hfz76_0, hfz76_1, hfz76_2⟩ := bz3_ BK244
    obtain ⟨Ao77, co77, eo77⟩ := Kd.R_slice HO_245000.out
    subst eo77
    obtain ⟨Ao78, co78, eo78⟩ := Kd.R_slice HO_245001.out
    subst eo78
    obtain ⟨Ao79, co79, eo79⟩ := Kd.R_slice HO_245002.out
    subst eo79
    go_wp2_with (first | ((with_reducible refine gate_dst (N := 41) rfl ?_); refine goesL_ (some 41) rfl rfl Try.func25 (by kernel_rfl) rfl #[.agg #[.slice Ao77 x245000_1.length co77, .slice Ao78 x245001_1.length co78, .slice Ao79 x245002_1.length co79]] rfl tm_ ?_; (with_reducible refine (spec_l3Own.calls _ _ x245000_1 _ _ x245001_1 _ _ x245002_1 t245 t248 t251 _ ?side1 ?side2 ?side3 ?side4 ?side5 ?side6 A74.out).mono ?_); (case side1 => exact ca (Kd.R_reads' HO_245000.out).2.2); (case side2 => exact (Kd.R_reads' HO_245000.out).2.1); (case side3 => exact ca (Kd.R_reads' HO_245001.out).2.2); (case side4 => exact (Kd.R_reads' HO_245001.out).2.1); (case side5 => exact ca (Kd.R_reads' HO_245002.out).2.2); (case side6 => exact (Kd.R_reads' HO_245002.out).2.1); rintro e w80 ⟨v246, v249, v252, rfl, ho0, ho1, ho2, hb⟩; refine ⟨_, rfl, ?_⟩; have HO247 := Aside0.mk (Kd.R_lower (Kd.R_new' (Kd.R_new' ho0 (rl_ HO_245000)) (rl_ HO_245001)) (below_size (hB HB))); have HO250 := Aside0.mk (Kd.R_lower (Kd.R_new' (Kd.R_new' ho1 (rl_ HO_245000)) (rl_ HO_245001)) (below_size (hB HB))); have HO253 := Aside0.mk (Kd.R_lower (Kd.R_new' ho2 (rl_ HO_245002)) (below_size (hB HB))); replace HO_7 := rb_ HO_7 hb; replace HO_245000 := rt2_ HO_245000 hb ho0 ho1; replace HO_245001 := rt2_ HO_245001 hb ho0 ho1; replace HO_245002 := re_ HO_245002 ho2 hb; replace BK233 := bb_ BK233 hb; replace BK244 := bb_ BK244 hb; replace HB := bst_ HB hb; clear hb ho0 ho1 ho2; obtain ⟨Ao81, co81, eo81⟩ := Kd.R_slice HO247.out; subst eo81; obtain ⟨hcz82_0, hcz82_1, hcz82_2⟩ := bcs3_ BK233; obtain ⟨hfz82_0, hfz82_1, hfz82_2⟩ := bz3_ BK233; obtain ⟨Ao83, co83, eo83⟩ := Kd.R_slice HO250.out; subst eo83; obtain ⟨Ao84, co84, eo84⟩ := Kd.R_slice HO253.out; subst eo84))
    refine bodyPost_ret (results_ctt rfl _ _ gb233 26 #[.slice Ao81 t245.length co81, .slice Ao83 t248.length co83, .slice Ao84 t251.length co84] (0, 0) _ rfl (bw0_ BK233) Try.underlying26 rfl (by kernel_rfl)) rfl ?_
    exact ⟨_, _, _, _, rt_, ro_ (fs3_ HO247.out BK233.out) (fun _ hk => hk.1.1.1), ro_ (fs3_ HO250.out BK233.out) (fun _ hk => hk.1.1.1), ro_ (fs3_ HO253.out BK233.out) (fun _ hk => trivial), ro_ (fs3_ HO_7.out BK233.out) (fun _ hk => trivial), hB HB⟩
   rw [if_pos c14] at H
   have c14b0 : decide (x22_1 < (l0.length : Int)) = true := decide_eq_true c14
   clear c14
   by_cases c15 : 0 ≤ x22_1
   rotate_left
   ·rw [if_neg c15] at H
    exact absurd H (by simp)
   rw [if_pos c15] at H
   have c15b0 : decide (0 ≤ x22_1) = true := decide_eq_true c15
   clear c15
   by_cases c16 : x22_1 < (l0.length : Int)
   rotate_left
   ·rw [if_neg c16] at H
    exact absurd H (by simp)
   rw [if_pos c16] at H
   have c16b0 : decide (x22_1 < (l0.length : Int)) = true := decide_eq_true c16
   clear c16
   replace H := Option.bind_eq_some_iff.mp H
   obtain ⟨⟨t256, t259, t262⟩, A170, H⟩ := H
   replace H : ((spec_l3Step.f k1 t256 t259 t262 ((rd_T28 l0 x22_1).f0) ((rd_T28 l0 x22_1).f1)).bind fun bt265 => (if bt265.2.2.2 = true then (if x7_1.length < 140737488355328 then (spec_PlayPair.l0 k1 (x7_1 ++ [bt265.2.2.2]) l0 (l0.length : Int) (wrap64 (x22_1 + 1)) bt265.1 bt265.2.1 bt265.2.2.1) else (none)) else (if x7_1.length < 140737488355328 then (spec_PlayPair.l0 k1 (x7_1 ++ [bt265.2.2.2]) l0 (l0.length : Int) (wrap64 (x22_1 + 1)) x245000_1 x245001_1 x245002_1) else (none)))) = some (r1, r2, r3, r4, r5) := H
   have A17 := Aside0.mk A170
   clear A170
   replace H := Option.bind_eq_some_iff.mp H
   obtain ⟨⟨t265, t268, t271, t274⟩, A180, H⟩ := H
   replace H : (if t274 = true then (if x7_1.length < 140737488355328 then (spec_PlayPair.l0 k1 (x7_1 ++ [t274]) l0 (l0.length : Int) (wrap64 (x22_1 + 1)) t265 t268 t271) else (none)) else (if x7_1.length < 140737488355328 then (spec_PlayPair.l0 k1 (x7_1 ++ [t274]) l0 (l0.length : Int) (wrap64 (x22_1 + 1)) x245000_1 x245001_1 x245002_1) else (none))) = some (r1, r2, r3, r4, r5) := H
   have A18 := Aside0.mk A180
   clear A180
   by_cases c19 : t274 = true
   rotate_left
   ·replace c19 := Bool.eq_false_iff.mpr c19
    subst c19
    rw [if_neg (show ¬ (false = true) by decide)] at H
    by_cases c50 : x7_1.length < 140737488355328
    rotate_left
    ·rw [if_neg c50] at H
     exact absurd H (by simp)
    rw [if_pos c50] at H
    have LMc50 := Aside0.mk c50
    clear c50
    obtain ⟨y279, hy279⟩ : ∃ y_ : List Bool, y_ = (x7_1 ++ [false]) := ⟨_, rfl⟩
    replace H : (spec_PlayPair.l0 k1 y279 l0 (l0.length : Int) (wrap64 (x22_1 + 1)) x245000_1 x245001_1 x245002_1) = some (r1, r2, r3, r4, r5) := by first | (rw [hy279]; with_reducible exact H) | (have H2_ := (Option.bind_some _ _).symm.trans H; rw [hy279]; with_reducible exact H2_) | (have H2_ := (Option.bind_some _ _).symm.trans H; with_reducible exact H2_) | with_reducible exact H | (rw [hy279]; exact H) | exact H
    have Ny279 := Aside0.mk hy279
    clear hy279
    have H' := Aside0.mk H
    clear H
    have p254 : 0 ≤ (x22_1 : Int) := od_
    have q254 : x22_1 < (l0.length : Int) := od_
    obtain ⟨ad254, e254, hx254_0, hx254_1⟩ := at_T28 HR0.out x22_1 p254 q254
    cases e254
    replace hx254_0 := hc_ HB hx254_0
    replace hx254_1 := hc_ HB hx254_1
    replace p254 := eq_true p254
    replace q254 := eq_true q254
    try go_wp2_with (first | ((with_reducible refine gate_dst (N := 9) rfl ?_); refine bx_ev 9 #[.int .i64 0, .int .i64 0] 28 ?_; intro gb255 hg w51 hbox hb; have BK255 := Aside0.mk (hbox); have GW255 := gw_ hg HB; have GE255 := gw_ hg HB; have NB233_255 := nl_ hg BK233; have NB255_233 := ng_ hg BK233; have NB244_255 := nl_ hg BK244; have NB255_244 := ng_ hg BK244; replace HO_7 := rb_ HO_7 hb; replace HO_245000 := rb_ HO_245000 hb; replace HO_245001 := rb_ HO_245001 hb; replace HO_245002 := rb_ HO_245002 hb; replace BK233 := bb_ BK233 hb; replace BK244 := bb_ BK244 hb; replace HB := bst_ HB hb; clear hb hbox hg; obtain ⟨hnb52, hnc52⟩ := nn_ NB255_233; obtain ⟨hnb53, hnc53⟩ := nn_ NB255_244; obtain ⟨hcz54_0, hcz54_1⟩ := bcs2_ BK255; obtain ⟨hfz54_0, hfz54_1⟩ := bz2_ BK255; obtain ⟨Ao55, co55, eo55⟩ := Kd.R_slice HO_245000.out; subst eo55; obtain ⟨Ao56, co56, eo56⟩ := Kd.R_slice HO_245001.out; subst eo56; obtain ⟨Ao57, co57, eo57⟩ := Kd.R_slice HO_245002.out; subst eo57))
    have n0_ : Aside0 (Kd.R Kd.bool 4 ((w51.setCell ⟨gb255, 0, none⟩ (.int .i64 ((rd_T28 l0 x22_1).f0))).setCell ⟨gb255, 1, none⟩ (.int .i64 ((rd_T28 l0 x22_1).f1))) w.heap.size (fun _ => True) u7 x7_1) := ⟨ro_ (Kd.R_far (p := ⟨gb255, 1, none⟩) (Kd.R_far (p := ⟨gb255, 0, none⟩) (Kd.R_types HO_7.out BK255.out (by decide)) (fun _ hk => hk.2) (.int .i64 ((rd_T28 l0 x22_1).f0))) (fun _ hk => hk.2) (.int .i64 ((rd_T28 l0 x22_1).f1))) (fun _ hk => trivial)⟩
    have n1_ : Aside0 (Kd.R (Kd.int .i64) 3 ((w51.setCell ⟨gb255, 0, none⟩ (.int .i64 ((rd_T28 l0 x22_1).f0))).setCell ⟨gb255, 1, none⟩ (.int .i64 ((rd_T28 l0 x22_1).f1))) w.heap.size (fun k_ => no_ (.slice Ao56 x245001_1.length co56) k_) (.slice Ao55 x245000_1.length co55) x245000_1) := ⟨ro_ (Kd.R_far (p := ⟨gb255, 1, none⟩) (Kd.R_far (p := ⟨gb255, 0, none⟩) (Kd.R_types HO_245000.out BK255.out (by decide)) (fun _ hk => hk.2) (.int .i64 ((rd_T28 l0 x22_1).f0))) (fun _ hk => hk.2) (.int .i64 ((rd_T28 l0 x22_1).f1))) (fun _ hk => hk.1)⟩
    have n2_ : Aside0 (Kd.R (Kd.int .i64) 3 ((w51.setCell ⟨gb255, 0, none⟩ (.int .i64 ((rd_T28 l0 x22_1).f0))).setCell ⟨gb255, 1, none⟩ (.int .i64 ((rd_T28 l0 x22_1).f1))) w.heap.size (fun k_ => no_ (.slice Ao55 x245000_1.length co55) k_) (.slice Ao56 x245001_1.length co56) x245001_1) := ⟨ro_ (Kd.R_far (p := ⟨gb255, 1, none⟩) (Kd.R_far (p := ⟨gb255, 0, none⟩) (Kd.R_types HO_245001.out BK255.out (by decide)) (fun _ hk => hk.2) (.int .i64 ((rd_T28 l0 x22_1).f0))) (fun _ hk => hk.2) (.int .i64 ((rd_T28 l0 x22_1).f1))) (fun _ hk => hk.1)⟩
    have n3_ : Aside0 (Kd.R k36 36 ((w51.setCell ⟨gb255, 0, none⟩ (.int .i64 ((rd_T28 l0 x22_1).f0))).setCell ⟨gb255, 1, none⟩ (.int .i64 ((rd_T28 l0 x22_1).f1))) w.heap.size (fun _ => True) (.slice Ao57 x245002_1.length co57) x245002_1) := ⟨ro_ (Kd.R_far (p := ⟨gb255, 1, none⟩) (Kd.R_far (p := ⟨gb255, 0, none⟩) (Kd.R_types HO_245002.out BK255.out (by decide)) (fun _ hk => hk.2) (.int .i64 ((rd_T28 l0 x22_1).f0))) (fun _ hk => hk.2) (.int .i64 ((rd_T28 l0 x22_1).f1))) (fun _ hk => trivial)⟩
    have n4_ : Aside0 (((w51.setCell ⟨gb255, 0, none⟩ (.int .i64 ((rd_T28 l0 x22_1).f0))).setCell ⟨gb255, 1, none⟩ (.int .i64 ((rd_T28 l0 x22_1).f1))).heap[gb233]? = some (.cells #[.slice none 0 0, .slice none 0 0, .slice none 0 0] 26 (0, 0))) := ⟨bw1_ BK233 NB233_255⟩
    have n5_ : Aside0 (((w51.setCell ⟨gb255, 0, none⟩ (.int .i64 ((rd_T28 l0 x22_1).f0))).setCell ⟨gb255, 1, none⟩ (.int .i64 ((rd_T28 l0 x22_1).f1))).heap[gb244]? = some (.cells #[.slice Ao55 x245000_1.length co55, .slice Ao56 x245001_1.length co56, .slice Ao57 x245002_1.length co57] 26 (0, 0))) := ⟨bw1_ BK244 NB244_255⟩
    have n6_ : Aside0 (((w51.setCell ⟨gb255, 0, none⟩ (.int .i64 ((rd_T28 l0 x22_1).f0))).setCell ⟨gb255, 1, none⟩ (.int .i64 ((rd_T28 l0 x22_1).f1))).heap[gb255]? = some (.cells #[.int .i64 ((rd_T28 l0 x22_1).f0), .int .i64 ((rd_T28 l0 x22_1).f1)] 28 (0, 0))) := ⟨bw0_ BK255⟩
    have n7_ : Aside0 (Below w.heap.size w ((w51.setCell ⟨gb255, 0, none⟩ (.int .i64 ((rd_T28 l0 x22_1).f0))).setCell ⟨gb255, 1, none⟩ (.int .i64 ((rd_T28 l0 x22_1).f1)))) := ⟨hB HB⟩
    (try clear HO_7)
    (try clear HO_245000)
    (try clear HO_245001)
    (try clear HO_245002)
    (try clear BK233)
    (try clear BK244)
    (try clear BK255)
    (try clear HB)
    generalize ((w51.setCell ⟨gb255, 0, none⟩ (.int .i64 ((rd_T28 l0 x22_1).f0))).setCell ⟨gb255, 1, none⟩ (.int .i64 ((rd_T28 l0 x22_1).f1))) = w58 at n0_ n1_ n2_ n3_ n4_ n5_ n6_ n7_ ⊢
    have HO_7 := n0_
    have HO_245000 := n1_
    have HO_245001 := n2_
    have HO_245002 := n3_
    have BK233 := n4_
    have BK244 := n5_
    have BK255 := n6_
    have HB := n7_
    clear n0_ n1_ n2_ n3_ n4_ n5_ n6_ n7_
    replace HO_7 := rd_ HO_7
    replace HO_245000 := rd_ HO_245000
    replace HO_245001 := rd_ HO_245001
    replace HO_245002 := rd_ HO_245002
    replace BK233 := bd_ BK233
    replace BK244 := bd_ BK244
    replace BK255 := bd_ BK255
    replace HB := Aside0.mk (below_drew1 HB.out)
    refine start_ (n := 10) (S := fun w' => w'.cell? ⟨gb244, 0, none⟩ = some (.slice Ao55 x245000_1.length co55) ∧ w'.cell? ⟨gb244, 1, none⟩ = some (.slice Ao56 x245001_1.length co56) ∧ w'.cell? ⟨gb244, 2, none⟩ = some (.slice Ao57 x245002_1.length co57) ∧ w'.cell? ⟨gb255, 0, none⟩ = some (.int .i64 ((rd_T28 l0 x22_1).f0)) ∧ w'.cell? ⟨gb255, 1, none⟩ = some (.int .i64 ((rd_T28 l0 x22_1).f1))) (ds := []) (bs 10 0) (by kernel_rfl) rfl rfl ⟨bc_ BK244 0, bc_ BK244 1, bc_ BK244 2, bc_ BK255 0, bc_ BK255 1⟩ (fun hHeld => ?_); refine with_tabW spec_PlayPair.tab8 spec_PlayPair.bits8 (fun HT_ HW_ => ?_)
    generalize w58.drew = w59 at HO_7 HO_245000 HO_245001 HO_245002 BK233 BK244 BK255 HB hHeld ⊢
    refine tk_ 0 27 (bs 10 1) HT_ HW_ hHeld ?_
    refine tk_ 2 29 (bs 10 5) HT_ HW_ hHeld ?_
    refine join_ (σ := Value × Value × Value × Value × Value × Value × Nat) 2 (bs 10 255) (fun s_ => [(28, .agg #[s_.1, s_.2.1, s_.2.2.1]), (30, .tuple #[.agg #[s_.2.2.2.1, s_.2.2.2.2.1, s_.2.2.2.2.2.1], .bool false]), (10, .pointer (some ⟨s_.2.2.2.2.2.2, 0, none⟩)), (26, .tuple #[.agg #[s_.2.2.2.1, s_.2.2.2.2.1, s_.2.2.2.2.2.1], .bool false]), (31, .agg #[s_.2.2.2.1, s_.2.2.2.2.1, s_.2.2.2.2.2.1]), (32, .bool false)]) (fun s_ w' => (w'.cell? ⟨gb244, 0, none⟩ = some (.slice Ao55 x245000_1.length co55) ∧ w'.cell? ⟨gb244, 1, none⟩ = some (.slice Ao56 x245001_1.length co56) ∧ w'.cell? ⟨gb244, 2, none⟩ = some (.slice Ao57 x245002_1.length co57) ∧ w'.cell? ⟨gb255, 0, none⟩ = some (.int .i64 ((rd_T28 l0 x22_1).f0)) ∧ w'.cell? ⟨gb255, 1, none⟩ = some (.int .i64 ((rd_T28 l0 x22_1).f1))) ∧ (Kd.R (Kd.int .i64) 3 w' w.heap.size (fun k_ => no_ s_.2.2.2.2.1 k_ ∧ no_ (.slice Ao55 x245000_1.length co55) k_ ∧ no_ (.slice Ao56 x245001_1.length co56) k_) s_.2.2.2.1 t265) ∧ (Kd.R (Kd.int .i64) 3 w' w.heap.size (fun k_ => no_ s_.2.2.2.1 k_ ∧ no_ (.slice Ao55 x245000_1.length co55) k_ ∧ no_ (.slice Ao56 x245001_1.length co56) k_) s_.2.2.2.2.1 t268) ∧ (Kd.R k36 36 w' w.heap.size (fun k_ => no_ (.slice Ao57 x245002_1.length co57) k_) s_.2.2.2.2.2.1 t271) ∧ (Kd.R (Kd.int .i64) 3 w' w.heap.size (fun k_ => no_ s_.2.2.2.1 k_ ∧ no_ s_.2.2.2.2.1 k_ ∧ no_ (.slice Ao56 x245001_1.length co56) k_) (.slice Ao55 x245000_1.length co55) x245000_1) ∧ (Kd.R (Kd.int .i64) 3 w' w.heap.size (fun k_ => no_ s_.2.2.2.1 k_ ∧ no_ s_.2.2.2.2.1 k_ ∧ no_ (.slice Ao55 x245000_1.length co55) k_) (.slice Ao56 x245001_1.length co56) x245001_1) ∧ (Kd.R k36 36 w' w.heap.size (fun k_ => no_ s_.2.2.2.2.2.1 k_) (.slice Ao57 x245002_1.length co57) x245002_1) ∧ (Kd.R Kd.bool 4 w' w.heap.size (fun _ => True) u7 x7_1) ∧ (w'.heap[gb233]? = some (.cells #[.slice none 0 0, .slice none 0 0, .slice none 0 0] 26 (0, 0))) ∧ (w'.heap[gb244]? = some (.cells #[.slice Ao55 x245000_1.length co55, .slice Ao56 x245001_1.length co56, .slice Ao57 x245002_1.length co57] 26 (0, 0))) ∧ (w'.heap[gb255]? = some (.cells #[.int .i64 ((rd_T28 l0 x22_1).f0), .int .i64 ((rd_T28 l0 x22_1).f1)] 28 (0, 0))) ∧ (w'.heap[s_.2.2.2.2.2.2]? = some (.cells #[.slice none 0 0, .slice none 0 0, .slice none 0 0] 26 (0, 0))) ∧ (w.heap.size ≤ s_.2.2.2.2.2.2) ∧ (w.heap.size ≤ s_.2.2.2.2.2.2) ∧ (gb233 ≠ s_.2.2.2.2.2.2) ∧ (s_.2.2.2.2.2.2 ≠ gb233) ∧ (gb244 ≠ s_.2.2.2.2.2.2) ∧ (s_.2.2.2.2.2.2 ≠ gb244) ∧ (gb255 ≠ s_.2.2.2.2.2.2) ∧ (s_.2.2.2.2.2.2 ≠ gb255) ∧ (Below w.heap.size w w')) ?_ ?_
    rotate_left
    ·intro hCont
     refine two_ (i := 1) (j := 7) (Ni := some 28) (Nj := some 10) (bs 10 7) (bs 10 133) rfl rfl rfl rfl (two_of HT_.out (by kernel_rfl)) (by decide) (by decide) (fun K hK => ?_) (fun K hK => ?_)
     rotate_left
     ·skip
      refine box_step ?hg (N := 10) ?hd (cs := #[.slice none 0 0, .slice none 0 0, .slice none 0 0]) (t := 26) ?hr ?_; (case hd => rfl); (case hg => rfl); (case hr => first | (go_simp; done) | (go_simp; rfl))
      intro gb275 hg w60 hbox hb
      have BK275 := Aside0.mk (hbox)
      have GW275 := gw_ hg HB
      have GE275 := gw_ hg HB
      have NB233_275 := nl_ hg BK233
      have NB275_233 := ng_ hg BK233
      have NB244_275 := nl_ hg BK244
      have NB275_244 := ng_ hg BK244
      have NB255_275 := nl_ hg BK255
      have NB275_255 := ng_ hg BK255
      replace HO_7 := rb_ HO_7 hb
      replace HO_245000 := rb_ HO_245000 hb
      replace HO_245001 := rb_ HO_245001 hb
      replace HO_245002 := rb_ HO_245002 hb
      replace BK233 := bb_ BK233 hb
      replace BK244 := bb_ BK244 hb
      replace BK255 := bb_ BK255 hb
      replace HB := bst_ HB hb
      clear hb hbox hg
      refine hK.out _ _ ⟨bc_ BK244 0, bc_ BK244 1, bc_ BK244 2, bc_ BK255 0, bc_ BK255 1⟩ (fun hHeld => ?_)
      clear hK K
      refine nm_ 10 ?_
      refine on_ 1 (some 28) (bs 10 135) HT_ (fun K hK => ?_)
      refine goes_ Try.func25 (by kernel_rfl) rfl #[.agg #[.slice Ao55 x245000_1.length co55, .slice Ao56 x245001_1.length co56, .slice Ao57 x245002_1.length co57]] (by rfl) rfl rfl tm_ ?_
      with_reducible refine (spec_l3Own.calls _ _ x245000_1 _ _ x245001_1 _ _ x245002_1 t256 t259 t262 _ ?side1 ?side2 ?side3 ?side4 ?side5 ?side6 A17.out).mono ?_
      (case side1 => exact ca (Kd.R_reads' HO_245000.out).2.2)
      (case side2 => exact (Kd.R_reads' HO_245000.out).2.1)
      (case side3 => exact ca (Kd.R_reads' HO_245001.out).2.2)
      (case side4 => exact (Kd.R_reads' HO_245001.out).2.1)
      (case side5 => exact ca (Kd.R_reads' HO_245002.out).2.2)
      (case side6 => exact (Kd.R_reads' HO_245002.out).2.1)
      rintro e w61 ⟨v257, v260, v263, rfl, ho0, ho1, ho2, hb⟩
      refine ⟨_, rfl, ?_⟩
      have HO258 := Aside0.mk (Kd.R_lower (Kd.R_new' (Kd.R_new' ho0 (rl_ HO_245000)) (rl_ HO_245001)) (below_size (hB HB)))
      have HO261 := Aside0.mk (Kd.R_lower (Kd.R_new' (Kd.R_new' ho1 (rl_ HO_245000)) (rl_ HO_245001)) (below_size (hB HB)))
      have HO264 := Aside0.mk (Kd.R_lower (Kd.R_new' ho2 (rl_ HO_245002)) (below_size (hB HB)))
      replace HO_7 := rb_ HO_7 hb
      replace HO_245000 := rt2_ HO_245000 hb ho0 ho1
      replace HO_245001 := rt2_ HO_245001 hb ho0 ho1
      replace HO_245002 := re_ HO_245002 ho2 hb
      replace BK233 := bb_ BK233 hb
      replace BK244 := bb_ BK244 hb
      replace BK255 := bb_ BK255 hb
      replace BK275 := bb_ BK275 hb
      replace HB := bst_ HB hb
      clear hb ho0 ho1 ho2
      obtain ⟨Ao62, co62, eo62⟩ := Kd.R_slice HO258.out
      (first | subst eo62 | (injection eo62 with f1_ f2_ f3_; have f4_ := f1_.symm; have f5_ := f3_.symm; clear f1_ f2_ f3_; subst f4_; subst f5_))
      obtain ⟨Ao63, co63, eo63⟩ := Kd.R_slice HO261.out
      (first | subst eo63 | (injection eo63 with f1_ f2_ f3_; have f4_ := f1_.symm; have f5_ := f3_.symm; clear f1_ f2_ f3_; subst f4_; subst f5_))
      obtain ⟨Ao64, co64, eo64⟩ := Kd.R_slice HO264.out
      (first | subst eo64 | (injection eo64 with f1_ f2_ f3_; have f4_ := f1_.symm; have f5_ := f3_.symm; clear f1_ f2_ f3_; subst f4_; subst f5_))
      refine hK.out _ _ ⟨bc_ BK244 0, bc_ BK244 1, bc_ BK244 2, bc_ BK255 0, bc_ BK255 1⟩ (fun hHeld => ?_)
      clear hK K
      refine nm_ 28 ?_
      refine on_ 3 (some 30) (bs 10 143) HT_ (fun K hK => ?_)
      refine goes_ Try.func24 (by kernel_rfl) rfl #[.agg #[.slice Ao62 t256.length co62, .slice Ao63 t259.length co63, .slice Ao64 t262.length co64], .agg #[.int .i64 ((rd_T28 l0 x22_1).f0), .int .i64 ((rd_T28 l0 x22_1).f1)]] (by rfl) rfl rfl tm_ ?_
      with_reducible refine (spec_l3Step.calls k1 (fun k_ => some k_ = (.slice Ao62 t256.length co62 : Value).ownBlock) (.slice Ao62 t256.length co62) t256 (fun k_ => some k_ = (.slice Ao63 t259.length co63 : Value).ownBlock) (.slice Ao63 t259.length co63) t259 (fun k_ => some k_ = (.slice Ao64 t262.length co64 : Value).ownBlock) (.slice Ao64 t262.length co64) t262 ((rd_T28 l0 x22_1).f0) ((rd_T28 l0 x22_1).f1) t265 t268 t271 false w _ ?side1 ?side2 ?side3 ?side4 ?side5 ?side6 A18.out).mono ?_
      (case side1 => exact hB HB)
      (case side2 => exact Kd.R_tight rfl HO258.out)
      (case side3 => exact fun k_ e_ => (HO258.out.1 k_ e_.symm).1.1)
      (case side4 => exact Kd.R_tight rfl HO261.out)
      (case side5 => exact fun k_ e_ => (HO261.out.1 k_ e_.symm).1.1)
      (case side6 => exact Kd.R_tight rfl HO264.out)
      rintro e w65 ⟨v266, v269, v272, rfl, ho0, ho1, ho2, hb, hkp⟩
      refine ⟨_, rfl, ?_⟩
      have HO267 := Aside0.mk (Kd.R_mono (ok' := fun k_ => no_ v269 k_ ∧ no_ (.slice Ao55 x245000_1.length co55) k_ ∧ no_ (.slice Ao56 x245001_1.length co56) k_) ho0 (fun k_ hk_ => ⟨hk_.2, Or.elim hk_.1 (fun hs_ => Or.elim hs_ (fun hs_ => fun e_ => ((((Kd.R_apart' HO_245000.out (Kd.R_typed HO264.out) (by decide))).1 k_ e_.symm).1.1.2) hs_) (fun hs_ => Or.elim hs_ (fun hs_ => fun e_ => ((((Kd.R_apart' HO_245000.out (Kd.R_typed HO264.out) (by decide))).1 k_ e_.symm).1.2) hs_) (fun hs_ => fun e_ => ((((Kd.R_apart' HO_245000.out (Kd.R_typed HO264.out) (by decide))).1 k_ e_.symm).2) hs_))) (fun hn_ => (Kd.fresh' (rl_ HO_245000) k_ hn_)), Or.elim hk_.1 (fun hs_ => Or.elim hs_ (fun hs_ => fun e_ => ((((Kd.R_apart' HO_245001.out (Kd.R_typed HO264.out) (by decide))).1 k_ e_.symm).1.1.2) hs_) (fun hs_ => Or.elim hs_ (fun hs_ => fun e_ => ((((Kd.R_apart' HO_245001.out (Kd.R_typed HO264.out) (by decide))).1 k_ e_.symm).1.2) hs_) (fun hs_ => fun e_ => ((((Kd.R_apart' HO_245001.out (Kd.R_typed HO264.out) (by decide))).1 k_ e_.symm).2) hs_))) (fun hn_ => (Kd.fresh' (rl_ HO_245001) k_ hn_))⟩))
      have HO270 := Aside0.mk (Kd.R_mono (ok' := fun k_ => no_ v266 k_ ∧ no_ (.slice Ao55 x245000_1.length co55) k_ ∧ no_ (.slice Ao56 x245001_1.length co56) k_) ho1 (fun k_ hk_ => ⟨hk_.2, Or.elim hk_.1 (fun hs_ => Or.elim hs_ (fun hs_ => fun e_ => ((((Kd.R_apart' HO_245000.out (Kd.R_typed HO264.out) (by decide))).1 k_ e_.symm).1.1.2) hs_) (fun hs_ => Or.elim hs_ (fun hs_ => fun e_ => ((((Kd.R_apart' HO_245000.out (Kd.R_typed HO264.out) (by decide))).1 k_ e_.symm).1.2) hs_) (fun hs_ => fun e_ => ((((Kd.R_apart' HO_245000.out (Kd.R_typed HO264.out) (by decide))).1 k_ e_.symm).2) hs_))) (fun hn_ => (Kd.fresh' (rl_ HO_245000) k_ hn_)), Or.elim hk_.1 (fun hs_ => Or.elim hs_ (fun hs_ => fun e_ => ((((Kd.R_apart' HO_245001.out (Kd.R_typed HO264.out) (by decide))).1 k_ e_.symm).1.1.2) hs_) (fun hs_ => Or.elim hs_ (fun hs_ => fun e_ => ((((Kd.R_apart' HO_245001.out (Kd.R_typed HO264.out) (by decide))).1 k_ e_.symm).1.2) hs_) (fun hs_ => fun e_ => ((((Kd.R_apart' HO_245001.out (Kd.R_typed HO264.out) (by decide))).1 k_ e_.symm).2) hs_))) (fun hn_ => (Kd.fresh' (rl_ HO_245001) k_ hn_))⟩))
      have HO273 := Aside0.mk (Kd.R_mono (ok' := fun k_ => no_ (.slice Ao57 x245002_1.length co57) k_) ho2 (fun k_ hk_ => Or.elim hk_ (fun hs_ => Or.elim hs_ (fun hs_ => fun e_ => ((((Kd.R_apart' (Kd.R_apart' HO_245002.out (Kd.R_typed HO258.out) (by decide)) (Kd.R_typed HO261.out) (by decide))).1 k_ e_.symm).1.2) hs_) (fun hs_ => Or.elim hs_ (fun hs_ => fun e_ => ((((Kd.R_apart' (Kd.R_apart' HO_245002.out (Kd.R_typed HO258.out) (by decide)) (Kd.R_typed HO261.out) (by decide))).1 k_ e_.symm).2) hs_) (fun hs_ => fun e_ => ((((Kd.R_apart' (Kd.R_apart' HO_245002.out (Kd.R_typed HO258.out) (by decide)) (Kd.R_typed HO261.out) (by decide))).1 k_ e_.symm).1.1.2) hs_))) (fun hn_ => (Kd.fresh' (rl_ HO_245002) k_ hn_))))
      replace HO_7 := Aside0.mk (Kd.R_mono (ok' := fun k_ => True) (Kd.R_keptB ((Kd.R_apart' (Kd.R_apart' (Kd.R_apart' HO_7.out (Kd.R_typed HO258.out) (by decide)) (Kd.R_typed HO261.out) (by decide)) (Kd.R_typed HO264.out) (by decide))) hkp (fun k_ hk_ hs_ => Or.elim hs_ (fun e_ => (hk_.1.1.2) e_) (fun e_ => Or.elim e_ (fun e_ => (hk_.1.2) e_) (fun e_ => (hk_.2) e_)))) (fun k_ hk_ => trivial))
      replace HO_245000 := Aside0.mk (Kd.R_mono (ok' := fun k_ => no_ (.slice Ao56 x245001_1.length co56) k_ ∧ no_ v266 k_ ∧ no_ v269 k_) (Kd.R_keptB ((Kd.R_apart' HO_245000.out (Kd.R_typed HO264.out) (by decide))) hkp (fun k_ hk_ hs_ => Or.elim hs_ (fun e_ => (hk_.1.1.2) e_) (fun e_ => Or.elim e_ (fun e_ => (hk_.1.2) e_) (fun e_ => (hk_.2) e_)))) (fun k_ hk_ => ⟨hk_.1.1.1.1, fun e_ => Or.elim (ho0.1 k_ e_.symm).1 (fun hs_ => hk_.2.1 hs_) (fun hn_ => Nat.not_le.2 hk_.2.2 hn_), fun e_ => Or.elim (ho1.1 k_ e_.symm).1 (fun hs_ => hk_.2.1 hs_) (fun hn_ => Nat.not_le.2 hk_.2.2 hn_)⟩))
      replace HO_245001 := Aside0.mk (Kd.R_mono (ok' := fun k_ => no_ (.slice Ao55 x245000_1.length co55) k_ ∧ no_ v266 k_ ∧ no_ v269 k_) (Kd.R_keptB ((Kd.R_apart' HO_245001.out (Kd.R_typed HO264.out) (by decide))) hkp (fun k_ hk_ hs_ => Or.elim hs_ (fun e_ => (hk_.1.1.2) e_) (fun e_ => Or.elim e_ (fun e_ => (hk_.1.2) e_) (fun e_ => (hk_.2) e_)))) (fun k_ hk_ => ⟨hk_.1.1.1.1, fun e_ => Or.elim (ho0.1 k_ e_.symm).1 (fun hs_ => hk_.2.1 hs_) (fun hn_ => Nat.not_le.2 hk_.2.2 hn_), fun e_ => Or.elim (ho1.1 k_ e_.symm).1 (fun hs_ => hk_.2.1 hs_) (fun hn_ => Nat.not_le.2 hk_.2.2 hn_)⟩))
      replace HO_245002 := Aside0.mk (Kd.R_mono (ok' := fun k_ => no_ v272 k_) (Kd.R_keptB ((Kd.R_apart' (Kd.R_apart' HO_245002.out (Kd.R_typed HO258.out) (by decide)) (Kd.R_typed HO261.out) (by decide))) hkp (fun k_ hk_ hs_ => Or.elim hs_ (fun e_ => (hk_.1.2) e_) (fun e_ => Or.elim e_ (fun e_ => (hk_.2) e_) (fun e_ => (hk_.1.1.2) e_)))) (fun k_ hk_ => fun e_ => Or.elim (ho2.1 k_ e_.symm) (fun hs_ => hk_.2.1 hs_) (fun hn_ => Nat.not_le.2 hk_.2.2 hn_)))
      replace BK233 := Aside0.mk (blk_kept (ba BK233.out) hkp (fun hs_ => Or.elim hs_ (kne_ HO258 BK233) (fun e_ => Or.elim e_ (kne_ HO261 BK233) (kne_ HO264 BK233))))
      replace BK244 := Aside0.mk (blk_kept (ba BK244.out) hkp (fun hs_ => Or.elim hs_ (kne_ HO258 BK244) (fun e_ => Or.elim e_ (kne_ HO261 BK244) (kne_ HO264 BK244))))
      replace BK255 := Aside0.mk (blk_kept (ba BK255.out) hkp (fun hs_ => Or.elim hs_ (kne_ HO258 BK255) (fun e_ => Or.elim e_ (kne_ HO261 BK255) (kne_ HO264 BK255))))
      replace BK275 := Aside0.mk (blk_kept (ba BK275.out) hkp (fun hs_ => Or.elim hs_ (kne_ HO258 BK275) (fun e_ => Or.elim e_ (kne_ HO261 BK275) (kne_ HO264 BK275))))
      replace HB := Aside0.mk (hb)
      clear HO258 HO261 HO264
      clear hb ho0 ho1 ho2
      refine hK.out _ _ ⟨bc_ BK244 0, bc_ BK244 1, bc_ BK244 2, bc_ BK255 0, bc_ BK255 1⟩ (fun hHeld => ?_)
      clear hK K
      refine nm_ 30 ?_
      refine pu_ 4 26 (bs 10 159) HT_ ?_
      refine pu_ 5 31 (bs 10 191) HT_ ?_
      refine pu_ 6 32 (bs 10 255) HT_ ?_
      exact norm_ (by simp only [putAll, Act.put, List.setIfInBounds_toArray, List.set_cons_zero, List.set_cons_succ]) (hCont (.slice Ao62 t256.length co62, .slice Ao63 t259.length co63, .slice Ao64 t262.length co64, v266, v269, v272, gb275) _ ⟨hHeld, (ra HO267.out), (ra HO270.out), (ra HO273.out), (rm_ HO_245000 (fun _ hk => ⟨hk.2.1, ⟨hk.2.2, hk.1⟩⟩)).out, (rm_ HO_245001 (fun _ hk => ⟨hk.2.1, ⟨hk.2.2, hk.1⟩⟩)).out, (ra HO_245002.out), (ra HO_7.out), (ba BK233.out), (ba BK244.out), (ba BK255.out), (ba BK275.out), GW275.out, GE275.out, NB233_275.out, NB275_233.out, NB244_275.out, NB275_244.out, NB255_275.out, NB275_255.out, (hB HB)⟩)
     skip
     refine goes_ Try.func25 (by kernel_rfl) rfl #[.agg #[.slice Ao55 x245000_1.length co55, .slice Ao56 x245001_1.length co56, .slice Ao57 x245002_1.length co57]] (by rfl) rfl rfl tm_ ?_
     with_reducible refine (spec_l3Own.calls _ _ x245000_1 _ _ x245001_1 _ _ x245002_1 t256 t259 t262 _ ?side1 ?side2 ?side3 ?side4 ?side5 ?side6 A17.out).mono ?_
     (case side1 => exact ca (Kd.R_reads' HO_245000.out).2.2)
     (case side2 => exact (Kd.R_reads' HO_245000.out).2.1)
     (case side3 => exact ca (Kd.R_reads' HO_245001.out).2.2)
     (case side4 => exact (Kd.R_reads' HO_245001.out).2.1)
     (case side5 => exact ca (Kd.R_reads' HO_245002.out).2.2)
     (case side6 => exact (Kd.R_reads' HO_245002.out).2.1)
     rintro e w60 ⟨v257, v260, v263, rfl, ho0, ho1, ho2, hb⟩
     refine ⟨_, rfl, ?_⟩
     have HO258 := Aside0.mk (Kd.R_lower (Kd.R_new' (Kd.R_new' ho0 (rl_ HO_245000)) (rl_ HO_245001)) (below_size (hB HB)))
     have HO261 := Aside0.mk (Kd.R_lower (Kd.R_new' (Kd.R_new' ho1 (rl_ HO_245000)) (rl_ HO_245001)) (below_size (hB HB)))
     have HO264 := Aside0.mk (Kd.R_lower (Kd.R_new' ho2 (rl_ HO_245002)) (below_size (hB HB)))
     replace HO_7 := rb_ HO_7 hb
     replace HO_245000 := rt2_ HO_245000 hb ho0 ho1
     replace HO_245001 := rt2_ HO_245001 hb ho0 ho1
     replace HO_245002 := re_ HO_245002 ho2 hb
     replace BK233 := bb_ BK233 hb
     replace BK244 := bb_ BK244 hb
     replace BK255 := bb_ BK255 hb
     replace HB := bst_ HB hb
     clear hb ho0 ho1 ho2
     obtain ⟨Ao61, co61, eo61⟩ := Kd.R_slice HO258.out
     (first | subst eo61 | (injection eo61 with f1_ f2_ f3_; have f4_ := f1_.symm; have f5_ := f3_.symm; clear f1_ f2_ f3_; subst f4_; subst f5_))
     obtain ⟨Ao62, co62, eo62⟩ := Kd.R_slice HO261.out
     (first | subst eo62 | (injection eo62 with f1_ f2_ f3_; have f4_ := f1_.symm; have f5_ := f3_.symm; clear f1_ f2_ f3_; subst f4_; subst f5_))
     obtain ⟨Ao63, co63, eo63⟩ := Kd.R_slice HO264.out
     (first | subst eo63 | (injection eo63 with f1_ f2_ f3_; have f4_ := f1_.symm; have f5_ := f3_.symm; clear f1_ f2_ f3_; subst f4_; subst f5_))
     refine hK.out _ _ ⟨bc_ BK244 0, bc_ BK244 1, bc_ BK244 2, bc_ BK255 0, bc_ BK255 1⟩ (fun hHeld => ?_)
     clear hK K
     refine nm_ 28 ?_
     refine two_ (i := 3) (j := 7) (Ni := some 30) (Nj := some 10) (bs 10 15) (bs 10 135) rfl rfl rfl rfl (two_of HT_.out (by kernel_rfl)) (by decide) (by decide) (fun K hK => ?_) (fun K hK => ?_)
     ·skip
      refine goes_ Try.func24 (by kernel_rfl) rfl #[.agg #[.slice Ao61 t256.length co61, .slice Ao62 t259.length co62, .slice Ao63 t262.length co63], .agg #[.int .i64 ((rd_T28 l0 x22_1).f0), .int .i64 ((rd_T28 l0 x22_1).f1)]] (by rfl) rfl rfl tm_ ?_
      with_reducible refine (spec_l3Step.calls k1 (fun k_ => some k_ = (.slice Ao61 t256.length co61 : Value).ownBlock) (.slice Ao61 t256.length co61) t256 (fun k_ => some k_ = (.slice Ao62 t259.length co62 : Value).ownBlock) (.slice Ao62 t259.length co62) t259 (fun k_ => some k_ = (.slice Ao63 t262.length co63 : Value).ownBlock) (.slice Ao63 t262.length co63) t262 ((rd_T28 l0 x22_1).f0) ((rd_T28 l0 x22_1).f1) t265 t268 t271 false w _ ?side1 ?side2 ?side3 ?side4 ?side5 ?side6 A18.out).mono ?_
      (case side1 => exact hB HB)
      (case side2 => exact Kd.R_tight rfl HO258.out)
      (case side3 => exact fun k_ e_ => (HO258.out.1 k_ e_.symm).1.1)
      (case side4 => exact Kd.R_tight rfl HO261.out)
      (case side5 => exact fun k_ e_ => (HO261.out.1 k_ e_.symm).1.1)
      (case side6 => exact Kd.R_tight rfl HO264.out)
      rintro e w64 ⟨v266, v269, v272, rfl, ho0, ho1, ho2, hb, hkp⟩
      refine ⟨_, rfl, ?_⟩
      have HO267 := Aside0.mk (Kd.R_mono (ok' := fun k_ => no_ v269 k_ ∧ no_ (.slice Ao55 x245000_1.length co55) k_ ∧ no_ (.slice Ao56 x245001_1.length co56) k_) ho0 (fun k_ hk_ => ⟨hk_.2, Or.elim hk_.1 (fun hs_ => Or.elim hs_ (fun hs_ => fun e_ => ((((Kd.R_apart' HO_245000.out (Kd.R_typed HO264.out) (by decide))).1 k_ e_.symm).1.1.2) hs_) (fun hs_ => Or.elim hs_ (fun hs_ => fun e_ => ((((Kd.R_apart' HO_245000.out (Kd.R_typed HO264.out) (by decide))).1 k_ e_.symm).1.2) hs_) (fun hs_ => fun e_ => ((((Kd.R_apart' HO_245000.out (Kd.R_typed HO264.out) (by decide))).1 k_ e_.symm).2) hs_))) (fun hn_ => (Kd.fresh' (rl_ HO_245000) k_ hn_)), Or.elim hk_.1 (fun hs_ => Or.elim hs_ (fun hs_ => fun e_ => ((((Kd.R_apart' HO_245001.out (Kd.R_typed HO264.out) (by decide))).1 k_ e_.symm).1.1.2) hs_) (fun hs_ => Or.elim hs_ (fun hs_ => fun e_ => ((((Kd.R_apart' HO_245001.out (Kd.R_typed HO264.out) (by decide))).1 k_ e_.symm).1.2) hs_) (fun hs_ => fun e_ => ((((Kd.R_apart' HO_245001.out (Kd.R_typed HO264.out) (by decide))).1 k_ e_.symm).2) hs_))) (fun hn_ => (Kd.fresh' (rl_ HO_245001) k_ hn_))⟩))
      have HO270 := Aside0.mk (Kd.R_mono (ok' := fun k_ => no_ v266 k_ ∧ no_ (.slice Ao55 x245000_1.length co55) k_ ∧ no_ (.slice Ao56 x245001_1.length co56) k_) ho1 (fun k_ hk_ => ⟨hk_.2, Or.elim hk_.1 (fun hs_ => Or.elim hs_ (fun hs_ => fun e_ => ((((Kd.R_apart' HO_245000.out (Kd.R_typed HO264.out) (by decide))).1 k_ e_.symm).1.1.2) hs_) (fun hs_ => Or.elim hs_ (fun hs_ => fun e_ => ((((Kd.R_apart' HO_245000.out (Kd.R_typed HO264.out) (by decide))).1 k_ e_.symm).1.2) hs_) (fun hs_ => fun e_ => ((((Kd.R_apart' HO_245000.out (Kd.R_typed HO264.out) (by decide))).1 k_ e_.symm).2) hs_))) (fun hn_ => (Kd.fresh' (rl_ HO_245000) k_ hn_)), Or.elim hk_.1 (fun hs_ => Or.elim hs_ (fun hs_ => fun e_ => ((((Kd.R_apart' HO_245001.out (Kd.R_typed HO264.out) (by decide))).1 k_ e_.symm).1.1.2) hs_) (fun hs_ => Or.elim hs_ (fun hs_ => fun e_ => ((((Kd.R_apart' HO_245001.out (Kd.R_typed HO264.out) (by decide))).1 k_ e_.symm).1.2) hs_) (fun hs_ => fun e_ => ((((Kd.R_apart' HO_245001.out (Kd.R_typed HO264.out) (by decide))).1 k_ e_.symm).2) hs_))) (fun hn_ => (Kd.fresh' (rl_ HO_245001) k_ hn_))⟩))
      have HO273 := Aside0.mk (Kd.R_mono (ok' := fun k_ => no_ (.slice Ao57 x245002_1.length co57) k_) ho2 (fun k_ hk_ => Or.elim hk_ (fun hs_ => Or.elim hs_ (fun hs_ => fun e_ => ((((Kd.R_apart' (Kd.R_apart' HO_245002.out (Kd.R_typed HO258.out) (by decide)) (Kd.R_typed HO261.out) (by decide))).1 k_ e_.symm).1.2) hs_) (fun hs_ => Or.elim hs_ (fun hs_ => fun e_ => ((((Kd.R_apart' (Kd.R_apart' HO_245002.out (Kd.R_typed HO258.out) (by decide)) (Kd.R_typed HO261.out) (by decide))).1 k_ e_.symm).2) hs_) (fun hs_ => fun e_ => ((((Kd.R_apart' (Kd.R_apart' HO_245002.out (Kd.R_typed HO258.out) (by decide)) (Kd.R_typed HO261.out) (by decide))).1 k_ e_.symm).1.1.2) hs_))) (fun hn_ => (Kd.fresh' (rl_ HO_245002) k_ hn_))))
      replace HO_7 := Aside0.mk (Kd.R_mono (ok' := fun k_ => True) (Kd.R_keptB ((Kd.R_apart' (Kd.R_apart' (Kd.R_apart' HO_7.out (Kd.R_typed HO258.out) (by decide)) (Kd.R_typed HO261.out) (by decide)) (Kd.R_typed HO264.out) (by decide))) hkp (fun k_ hk_ hs_ => Or.elim hs_ (fun e_ => (hk_.1.1.2) e_) (fun e_ => Or.elim e_ (fun e_ => (hk_.1.2) e_) (fun e_ => (hk_.2) e_)))) (fun k_ hk_ => trivial))
      replace HO_245000 := Aside0.mk (Kd.R_mono (ok' := fun k_ => no_ (.slice Ao56 x245001_1.length co56) k_ ∧ no_ v266 k_ ∧ no_ v269 k_) (Kd.R_keptB ((Kd.R_apart' HO_245000.out (Kd.R_typed HO264.out) (by decide))) hkp (fun k_ hk_ hs_ => Or.elim hs_ (fun e_ => (hk_.1.1.2) e_) (fun e_ => Or.elim e_ (fun e_ => (hk_.1.2) e_) (fun e_ => (hk_.2) e_)))) (fun k_ hk_ => ⟨hk_.1.1.1.1, fun e_ => Or.elim (ho0.1 k_ e_.symm).1 (fun hs_ => hk_.2.1 hs_) (fun hn_ => Nat.not_le.2 hk_.2.2 hn_), fun e_ => Or.elim (ho1.1 k_ e_.symm).1 (fun hs_ => hk_.2.1 hs_) (fun hn_ => Nat.not_le.2 hk_.2.2 hn_)⟩))
      replace HO_245001 := Aside0.mk (Kd.R_mono (ok' := fun k_ => no_ (.slice Ao55 x245000_1.length co55) k_ ∧ no_ v266 k_ ∧ no_ v269 k_) (Kd.R_keptB ((Kd.R_apart' HO_245001.out (Kd.R_typed HO264.out) (by decide))) hkp (fun k_ hk_ hs_ => Or.elim hs_ (fun e_ => (hk_.1.1.2) e_) (fun e_ => Or.elim e_ (fun e_ => (hk_.1.2) e_) (fun e_ => (hk_.2) e_)))) (fun k_ hk_ => ⟨hk_.1.1.1.1, fun e_ => Or.elim (ho0.1 k_ e_.symm).1 (fun hs_ => hk_.2.1 hs_) (fun hn_ => Nat.not_le.2 hk_.2.2 hn_), fun e_ => Or.elim (ho1.1 k_ e_.symm).1 (fun hs_ => hk_.2.1 hs_) (fun hn_ => Nat.not_le.2 hk_.2.2 hn_)⟩))
      replace HO_245002 := Aside0.mk (Kd.R_mono (ok' := fun k_ => no_ v272 k_) (Kd.R_keptB ((Kd.R_apart' (Kd.R_apart' HO_245002.out (Kd.R_typed HO258.out) (by decide)) (Kd.R_typed HO261.out) (by decide))) hkp (fun k_ hk_ hs_ => Or.elim hs_ (fun e_ => (hk_.1.2) e_) (fun e_ => Or.elim e_ (fun e_ => (hk_.2) e_) (fun e_ => (hk_.1.1.2) e_)))) (fun k_ hk_ => fun e_ => Or.elim (ho2.1 k_ e_.symm) (fun hs_ => hk_.2.1 hs_) (fun hn_ => Nat.not_le.2 hk_.2.2 hn_)))
      replace BK233 := Aside0.mk (blk_kept (ba BK233.out) hkp (fun hs_ => Or.elim hs_ (kne_ HO258 BK233) (fun e_ => Or.elim e_ (kne_ HO261 BK233) (kne_ HO264 BK233))))
      replace BK244 := Aside0.mk (blk_kept (ba BK244.out) hkp (fun hs_ => Or.elim hs_ (kne_ HO258 BK244) (fun e_ => Or.elim e_ (kne_ HO261 BK244) (kne_ HO264 BK244))))
      replace BK255 := Aside0.mk (blk_kept (ba BK255.out) hkp (fun hs_ => Or.elim hs_ (kne_ HO258 BK255) (fun e_ => Or.elim e_ (kne_ HO261 BK255) (kne_ HO264 BK255))))
      replace HB := Aside0.mk (hb)
      clear HO258 HO261 HO264
      clear hb ho0 ho1 ho2
      refine hK.out _ _ ⟨bc_ BK244 0, bc_ BK244 1, bc_ BK244 2, bc_ BK255 0, bc_ BK255 1⟩ (fun hHeld => ?_)
      clear hK K
      refine nm_ 30 ?_
      refine pu_ 4 26 (bs 10 31) HT_ ?_
      refine pu_ 5 31 (bs 10 63) HT_ ?_
      refine pu_ 6 32 (bs 10 127) HT_ ?_
      refine on_ 7 (some 10) (bs 10 255) HT_ (fun K hK => ?_)
      refine box_step ?hg (N := 10) ?hd (cs := #[.slice none 0 0, .slice none 0 0, .slice none 0 0]) (t := 26) ?hr ?_; (case hd => rfl); (case hg => rfl); (case hr => first | (go_simp; done) | (go_simp; rfl))
      intro gb275 hg w65 hbox hb
      have BK275 := Aside0.mk (hbox)
      have GW275 := gw_ hg HB
      have GE275 := gw_ hg HB
      have NB233_275 := nl_ hg BK233
      have NB275_233 := ng_ hg BK233
      have NB244_275 := nl_ hg BK244
      have NB275_244 := ng_ hg BK244
      have NB255_275 := nl_ hg BK255
      have NB275_255 := ng_ hg BK255
      replace HO_7 := rb_ HO_7 hb
      replace HO_245000 := rb_ HO_245000 hb
      replace HO_245001 := rb_ HO_245001 hb
      replace HO_245002 := rb_ HO_245002 hb
      replace HO267 := rb_ HO267 hb
      replace HO270 := rb_ HO270 hb
      replace HO273 := rb_ HO273 hb
      replace BK233 := bb_ BK233 hb
      replace BK244 := bb_ BK244 hb
      replace BK255 := bb_ BK255 hb
      replace HB := bst_ HB hb
      clear hb hbox hg
      refine hK.out _ _ ⟨bc_ BK244 0, bc_ BK244 1, bc_ BK244 2, bc_ BK255 0, bc_ BK255 1⟩ (fun hHeld => ?_)
      clear hK K
      refine nm_ 10 ?_
      exact norm_ (by simp only [putAll, Act.put, List.setIfInBounds_toArray, List.set_cons_zero, List.set_cons_succ]) (hCont (.slice Ao61 t256.length co61, .slice Ao62 t259.length co62, .slice Ao63 t262.length co63, v266, v269, v272, gb275) _ ⟨hHeld, (ra HO267.out), (ra HO270.out), (ra HO273.out), (rm_ HO_245000 (fun _ hk => ⟨hk.2.1, ⟨hk.2.2, hk.1⟩⟩)).out, (rm_ HO_245001 (fun _ hk => ⟨hk.2.1, ⟨hk.2.2, hk.1⟩⟩)).out, (ra HO_245002.out), (ra HO_7.out), (ba BK233.out), (ba BK244.out), (ba BK255.out), (ba BK275.out), GW275.out, GE275.out, NB233_275.out, NB275_233.out, NB244_275.out, NB275_244.out, NB255_275.out, NB275_255.out, (hB HB)⟩)
     skip
     refine box_step ?hg (N := 10) ?hd (cs := #[.slice none 0 0, .slice none 0 0, .slice none 0 0]) (t := 26) ?hr ?_; (case hd => rfl); (case hg => rfl); (case hr => first | (go_simp; done) | (go_simp; rfl))
     intro gb275 hg w61 hbox hb
     have BK275 := Aside0.mk (hbox)
     have GW275 := gw_ hg HB
     have GE275 := gw_ hg HB
     have NB233_275 := nl_ hg BK233
     have NB275_233 := ng_ hg BK233
     have NB244_275 := nl_ hg BK244
     have NB275_244 := ng_ hg BK244
     have NB255_275 := nl_ hg BK255
     have NB275_255 := ng_ hg BK255
     replace HO_7 := rb_ HO_7 hb
     replace HO_245000 := rb_ HO_245000 hb
     replace HO_245001 := rb_ HO_245001 hb
     replace HO_245002 := rb_ HO_245002 hb
     replace HO258 := rb_ HO258 hb
     replace HO261 := rb_ HO261 hb
     replace HO264 := rb_ HO264 hb
     replace BK233 := bb_ BK233 hb
     replace BK244 := bb_ BK244 hb
     replace BK255 := bb_ BK255 hb
     replace HB := bst_ HB hb
     clear hb hbox hg
     obtain ⟨Ao62, co62, eo62⟩ := Kd.R_slice HO258.out
     (first | subst eo62 | (injection eo62 with f1_ f2_ f3_; have f4_ := f1_.symm; have f5_ := f3_.symm; clear f1_ f2_ f3_; subst f4_; subst f5_))
     obtain ⟨Ao63, co63, eo63⟩ := Kd.R_slice HO261.out
     (first | subst eo63 | (injection eo63 with f1_ f2_ f3_; have f4_ := f1_.symm; have f5_ := f3_.symm; clear f1_ f2_ f3_; subst f4_; subst f5_))
     obtain ⟨Ao64, co64, eo64⟩ := Kd.R_slice HO264.out
     (first | subst eo64 | (injection eo64 with f1_ f2_ f3_; have f4_ := f1_.symm; have f5_ := f3_.symm; clear f1_ f2_ f3_; subst f4_; subst f5_))
     refine hK.out _ _ ⟨bc_ BK244 0, bc_ BK244 1, bc_ BK244 2, bc_ BK255 0, bc_ BK255 1⟩ (fun hHeld => ?_)
     clear hK K
     refine nm_ 10 ?_
     refine on_ 3 (some 30) (bs 10 143) HT_ (fun K hK => ?_)
     refine goes_ Try.func24 (by kernel_rfl) rfl #[.agg #[.slice Ao62 t256.length co62, .slice Ao63 t259.length co63, .slice Ao64 t262.length co64], .agg #[.int .i64 ((rd_T28 l0 x22_1).f0), .int .i64 ((rd_T28 l0 x22_1).f1)]] (by rfl) rfl rfl tm_ ?_
     with_reducible refine (spec_l3Step.calls k1 (fun k_ => some k_ = (.slice Ao62 t256.length co62 : Value).ownBlock) (.slice Ao62 t256.length co62) t256 (fun k_ => some k_ = (.slice Ao63 t259.length co63 : Value).ownBlock) (.slice Ao63 t259.length co63) t259 (fun k_ => some k_ = (.slice Ao64 t262.length co64 : Value).ownBlock) (.slice Ao64 t262.length co64) t262 ((rd_T28 l0 x22_1).f0) ((rd_T28 l0 x22_1).f1) t265 t268 t271 false w _ ?side1 ?side2 ?side3 ?side4 ?side5 ?side6 A18.out).mono ?_
     (case side1 => exact hB HB)
     (case side2 => exact Kd.R_tight rfl HO258.out)
     (case side3 => exact fun k_ e_ => (HO258.out.1 k_ e_.symm).1.1)
     (case side4 => exact Kd.R_tight rfl HO261.out)
     (case side5 => exact fun k_ e_ => (HO261.out.1 k_ e_.symm).1.1)
     (case side6 => exact Kd.R_tight rfl HO264.out)
     rintro e w65 ⟨v266, v269, v272, rfl, ho0, ho1, ho2, hb, hkp⟩
     refine ⟨_, rfl, ?_⟩
     have HO267 := Aside0.mk (Kd.R_mono (ok' := fun k_ => no_ v269 k_ ∧ no_ (.slice Ao55 x245000_1.length co55) k_ ∧ no_ (.slice Ao56 x245001_1.length co56) k_) ho0 (fun k_ hk_ => ⟨hk_.2, Or.elim hk_.1 (fun hs_ => Or.elim hs_ (fun hs_ => fun e_ => ((((Kd.R_apart' HO_245000.out (Kd.R_typed HO264.out) (by decide))).1 k_ e_.symm).1.1.2) hs_) (fun hs_ => Or.elim hs_ (fun hs_ => fun e_ => ((((Kd.R_apart' HO_245000.out (Kd.R_typed HO264.out) (by decide))).1 k_ e_.symm).1.2) hs_) (fun hs_ => fun e_ => ((((Kd.R_apart' HO_245000.out (Kd.R_typed HO264.out) (by decide))).1 k_ e_.symm).2) hs_))) (fun hn_ => (Kd.fresh' (rl_ HO_245000) k_ hn_)), Or.elim hk_.1 (fun hs_ => Or.elim hs_ (fun hs_ => fun e_ => ((((Kd.R_apart' HO_245001.out (Kd.R_typed HO264.out) (by decide))).1 k_ e_.symm).1.1.2) hs_) (fun hs_ => Or.elim hs_ (fun hs_ => fun e_ => ((((Kd.R_apart' HO_245001.out (Kd.R_typed HO264.out) (by decide))).1 k_ e_.symm).1.2) hs_) (fun hs_ => fun e_ => ((((Kd.R_apart' HO_245001.out (Kd.R_typed HO264.out) (by decide))).1 k_ e_.symm).2) hs_))) (fun hn_ => (Kd.fresh' (rl_ HO_245001) k_ hn_))⟩))
     have HO270 := Aside0.mk (Kd.R_mono (ok' := fun k_ => no_ v266 k_ ∧ no_ (.slice Ao55 x245000_1.length co55) k_ ∧ no_ (.slice Ao56 x245001_1.length co56) k_) ho1 (fun k_ hk_ => ⟨hk_.2, Or.elim hk_.1 (fun hs_ => Or.elim hs_ (fun hs_ => fun e_ => ((((Kd.R_apart' HO_245000.out (Kd.R_typed HO264.out) (by decide))).1 k_ e_.symm).1.1.2) hs_) (fun hs_ => Or.elim hs_ (fun hs_ => fun e_ => ((((Kd.R_apart' HO_245000.out (Kd.R_typed HO264.out) (by decide))).1 k_ e_.symm).1.2) hs_) (fun hs_ => fun e_ => ((((Kd.R_apart' HO_245000.out (Kd.R_typed HO264.out) (by decide))).1 k_ e_.symm).2) hs_))) (fun hn_ => (Kd.fresh' (rl_ HO_245000) k_ hn_)), Or.elim hk_.1 (fun hs_ => Or.elim hs_ (fun hs_ => fun e_ => ((((Kd.R_apart' HO_245001.out (Kd.R_typed HO264.out) (by decide))).1 k_ e_.symm).1.1.2) hs_) (fun hs_ => Or.elim hs_ (fun hs_ => fun e_ => ((((Kd.R_apart' HO_245001.out (Kd.R_typed HO264.out) (by decide))).1 k_ e_.symm).1.2) hs_) (fun hs_ => fun e_ => ((((Kd.R_apart' HO_245001.out (Kd.R_typed HO264.out) (by decide))).1 k_ e_.symm).2) hs_))) (fun hn_ => (Kd.fresh' (rl_ HO_245001) k_ hn_))⟩))
     have HO273 := Aside0.mk (Kd.R_mono (ok' := fun k_ => no_ (.slice Ao57 x245002_1.length co57) k_) ho2 (fun k_ hk_ => Or.elim hk_ (fun hs_ => Or.elim hs_ (fun hs_ => fun e_ => ((((Kd.R_apart' (Kd.R_apart' HO_245002.out (Kd.R_typed HO258.out) (by decide)) (Kd.R_typed HO261.out) (by decide))).1 k_ e_.symm).1.2) hs_) (fun hs_ => Or.elim hs_ (fun hs_ => fun e_ => ((((Kd.R_apart' (Kd.R_apart' HO_245002.out (Kd.R_typed HO258.out) (by decide)) (Kd.R_typed HO261.out) (by decide))).1 k_ e_.symm).2) hs_) (fun hs_ => fun e_ => ((((Kd.R_apart' (Kd.R_apart' HO_245002.out (Kd.R_typed HO258.out) (by decide)) (Kd.R_typed HO261.out) (by decide))).1 k_ e_.symm).1.1.2) hs_))) (fun hn_ => (Kd.fresh' (rl_ HO_245002) k_ hn_))))
     replace HO_7 := Aside0.mk (Kd.R_mono (ok' := fun k_ => True) (Kd.R_keptB ((Kd.R_apart' (Kd.R_apart' (Kd.R_apart' HO_7.out (Kd.R_typed HO258.out) (by decide)) (Kd.R_typed HO261.out) (by decide)) (Kd.R_typed HO264.out) (by decide))) hkp (fun k_ hk_ hs_ => Or.elim hs_ (fun e_ => (hk_.1.1.2) e_) (fun e_ => Or.elim e_ (fun e_ => (hk_.1.2) e_) (fun e_ => (hk_.2) e_)))) (fun k_ hk_ => trivial))
     replace HO_245000 := Aside0.mk (Kd.R_mono (ok' := fun k_ => no_ (.slice Ao56 x245001_1.length co56) k_ ∧ no_ v266 k_ ∧ no_ v269 k_) (Kd.R_keptB ((Kd.R_apart' HO_245000.out (Kd.R_typed HO264.out) (by decide))) hkp (fun k_ hk_ hs_ => Or.elim hs_ (fun e_ => (hk_.1.1.2) e_) (fun e_ => Or.elim e_ (fun e_ => (hk_.1.2) e_) (fun e_ => (hk_.2) e_)))) (fun k_ hk_ => ⟨hk_.1.1.1.1, fun e_ => Or.elim (ho0.1 k_ e_.symm).1 (fun hs_ => hk_.2.1 hs_) (fun hn_ => Nat.not_le.2 hk_.2.2 hn_), fun e_ => Or.elim (ho1.1 k_ e_.symm).1 (fun hs_ => hk_.2.1 hs_) (fun hn_ => Nat.not_le.2 hk_.2.2 hn_)⟩))
     replace HO_245001 := Aside0.mk (Kd.R_mono (ok' := fun k_ => no_ (.slice Ao55 x245000_1.length co55) k_ ∧ no_ v266 k_ ∧ no_ v269 k_) (Kd.R_keptB ((Kd.R_apart' HO_245001.out (Kd.R_typed HO264.out) (by decide))) hkp (fun k_ hk_ hs_ => Or.elim hs_ (fun e_ => (hk_.1.1.2) e_) (fun e_ => Or.elim e_ (fun e_ => (hk_.1.2) e_) (fun e_ => (hk_.2) e_)))) (fun k_ hk_ => ⟨hk_.1.1.1.1, fun e_ => Or.elim (ho0.1 k_ e_.symm).1 (fun hs_ => hk_.2.1 hs_) (fun hn_ => Nat.not_le.2 hk_.2.2 hn_), fun e_ => Or.elim (ho1.1 k_ e_.symm).1 (fun hs_ => hk_.2.1 hs_) (fun hn_ => Nat.not_le.2 hk_.2.2 hn_)⟩))
     replace HO_245002 := Aside0.mk (Kd.R_mono (ok' := fun k_ => no_ v272 k_) (Kd.R_keptB ((Kd.R_apart' (Kd.R_apart' HO_245002.out (Kd.R_typed HO258.out) (by decide)) (Kd.R_typed HO261.out) (by decide))) hkp (fun k_ hk_ hs_ => Or.elim hs_ (fun e_ => (hk_.1.2) e_) (fun e_ => Or.elim e_ (fun e_ => (hk_.2) e_) (fun e_ => (hk_.1.1.2) e_)))) (fun k_ hk_ => fun e_ => Or.elim (ho2.1 k_ e_.symm) (fun hs_ => hk_.2.1 hs_) (fun hn_ => Nat.not_le.2 hk_.2.2 hn_)))
     replace BK233 := Aside0.mk (blk_kept (ba BK233.out) hkp (fun hs_ => Or.elim hs_ (kne_ HO258 BK233) (fun e_ => Or.elim e_ (kne_ HO261 BK233) (kne_ HO264 BK233))))
     replace BK244 := Aside0.mk (blk_kept (ba BK244.out) hkp (fun hs_ => Or.elim hs_ (kne_ HO258 BK244) (fun e_ => Or.elim e_ (kne_ HO261 BK244) (kne_ HO264 BK244))))
     replace BK255 := Aside0.mk (blk_kept (ba BK255.out) hkp (fun hs_ => Or.elim hs_ (kne_ HO258 BK255) (fun e_ => Or.elim e_ (kne_ HO261 BK255) (kne_ HO264 BK255))))
     replace BK275 := Aside0.mk (blk_kept (ba BK275.out) hkp (fun hs_ => Or.elim hs_ (kne_ HO258 BK275) (fun e_ => Or.elim e_ (kne_ HO261 BK275) (kne_ HO264 BK275))))
     replace HB := Aside0.mk (hb)
     clear HO258 HO261 HO264
     clear hb ho0 ho1 ho2
     refine hK.out _ _ ⟨bc_ BK244 0, bc_ BK244 1, bc_ BK244 2, bc_ BK255 0, bc_ BK255 1⟩ (fun hHeld => ?_)
     clear hK K
     refine nm_ 30 ?_
     refine pu_ 4 26 (bs 10 159) HT_ ?_
     refine pu_ 5 31 (bs 10 191) HT_ ?_
     refine pu_ 6 32 (bs 10 255) HT_ ?_
     exact norm_ (by simp only [putAll, Act.put, List.setIfInBounds_toArray, List.set_cons_zero, List.set_cons_succ]) (hCont (.slice Ao62 t256.length co62, .slice Ao63 t259.length co63, .slice Ao64 t262.length co64, v266, v269, v272, gb275) _ ⟨hHeld, (ra HO267.out), (ra HO270.out), (ra HO273.out), (rm_ HO_245000 (fun _ hk => ⟨hk.2.1, ⟨hk.2.2, hk.1⟩⟩)).out, (rm_ HO_245001 (fun _ hk => ⟨hk.2.1, ⟨hk.2.2, hk.1⟩⟩)).out, (ra HO_245002.out), (ra HO_7.out), (ba BK233.out), (ba BK244.out), (ba BK255.out), (ba BK275.out), GW275.out, GE275.out, NB233_275.out, NB275_233.out, NB244_275.out, NB275_244.out, NB255_275.out, NB275_255.out, (hB HB)⟩)
    rintro ⟨v257, v260, v263, v266, v269, v272, gb275⟩ w66 ⟨hS_, h0_, h1_, h2_, h3_, h4_, h5_, h6_, h7_, h8_, h9_, h10_, h11_, h12_, h13_, h14_, h15_, h16_, h17_, h18_, h19_⟩
    try dsimp only at h0_ h1_ h2_ h3_ h4_ h5_ h6_ h7_ h8_ h9_ h10_ h11_ h12_ h13_ h14_ h15_ h16_ h17_ h18_ h19_
    have HO267 := Aside0.mk h0_
    have HO270 := Aside0.mk h1_
    have HO273 := Aside0.mk h2_
    have BK275 := Aside0.mk h10_
    have GW275 := Aside0.mk h11_
    have GE275 := Aside0.mk h12_
    have NB233_275 := Aside0.mk h13_
    have NB275_233 := Aside0.mk h14_
    have NB244_275 := Aside0.mk h15_
    have NB275_244 := Aside0.mk h16_
    have NB255_275 := Aside0.mk h17_
    have NB275_255 := Aside0.mk h18_
    replace HO_245000 := Aside0.mk h3_
    replace HO_245001 := Aside0.mk h4_
    replace HO_245002 := Aside0.mk h5_
    replace HO_7 := Aside0.mk h6_
    replace BK233 := Aside0.mk h7_
    replace BK244 := Aside0.mk h8_
    replace BK255 := Aside0.mk h9_
    replace HB := Aside0.mk h19_
    clear h0_ h1_ h2_ h3_ h4_ h5_ h6_ h7_ h8_ h9_ h10_ h11_ h12_ h13_ h14_ h15_ h16_ h17_ h18_ h19_
    have hHeld : w66.cell? ⟨gb244, 0, none⟩ = some (.slice Ao55 x245000_1.length co55) ∧ w66.cell? ⟨gb244, 1, none⟩ = some (.slice Ao56 x245001_1.length co56) ∧ w66.cell? ⟨gb244, 2, none⟩ = some (.slice Ao57 x245002_1.length co57) ∧ w66.cell? ⟨gb255, 0, none⟩ = some (.int .i64 ((rd_T28 l0 x22_1).f0)) ∧ w66.cell? ⟨gb255, 1, none⟩ = some (.int .i64 ((rd_T28 l0 x22_1).f1)) := hS_
    obtain ⟨Ao67, co67, eo67⟩ := Kd.R_slice HO267.out
    (first | subst eo67 | (injection eo67 with f1_ f2_ f3_; have f4_ := f1_.symm; have f5_ := f3_.symm; clear f1_ f2_ f3_; subst f4_; subst f5_))
    obtain ⟨Ao69, co69, eo69⟩ := Kd.R_slice HO270.out
    (first | subst eo69 | (injection eo69 with f1_ f2_ f3_; have f4_ := f1_.symm; have f5_ := f3_.symm; clear f1_ f2_ f3_; subst f4_; subst f5_))
    obtain ⟨Ao71, co71, eo71⟩ := Kd.R_slice HO273.out
    (first | subst eo71 | (injection eo71 with f1_ f2_ f3_; have f4_ := f1_.symm; have f5_ := f3_.symm; clear f1_ f2_ f3_; subst f4_; subst f5_))
    refine norm_ (a' := ?_) ?_ ?_
    rotate_left
    ·simp only [putAll, Act.put, List.setIfInBounds_toArray, List.set_cons_zero, List.set_cons_succ]
     rfl
    refine on_ 8 (none) (bs 10 511) HT_ (fun K hK => ?_)
    have hs68 : w66.cell? ⟨gb275, 0, none⟩ = some (.slice none 0 0) := bc_ BK275 0
    have hfs68 := bz_ BK275 0
    have hns68_0 := NB233_275.out
    have hns68_1 := NB244_275.out
    have hns68_2 := NB255_275.out
    have hms68_0 := NB275_233.out
    have hms68_1 := NB275_244.out
    have hms68_2 := NB275_255.out
    have hs70 : w66.cell? ⟨gb275, 1, none⟩ = some (.slice none 0 0) := bc_ BK275 1
    have hfs70 := bz_ BK275 1
    have hns70_0 := NB233_275.out
    have hns70_1 := NB244_275.out
    have hns70_2 := NB255_275.out
    have hms70_0 := NB275_233.out
    have hms70_1 := NB275_244.out
    have hms70_2 := NB275_255.out
    have hs72 : w66.cell? ⟨gb275, 2, none⟩ = some (.slice none 0 0) := bc_ BK275 2
    have hfs72 := bz_ BK275 2
    have hns72_0 := NB233_275.out
    have hns72_1 := NB244_275.out
    have hns72_2 := NB255_275.out
    have hms72_0 := NB275_233.out
    have hms72_1 := NB275_244.out
    have hms72_2 := NB275_255.out
    refine skip_ (w1 := ?_) (by rfl) rfl ?_ ?_
    rotate_left
    ·go_simp
     rfl
    refine hK.out _ _ ⟨((cell_far (p := ⟨gb275, _, none⟩) NB244_275.out _).trans (((cell_far (p := ⟨gb275, _, none⟩) NB244_275.out _).trans (((cell_far (p := ⟨gb275, _, none⟩) NB244_275.out _).trans (hHeld.1)))))), ((cell_far (p := ⟨gb275, _, none⟩) NB244_275.out _).trans (((cell_far (p := ⟨gb275, _, none⟩) NB244_275.out _).trans (((cell_far (p := ⟨gb275, _, none⟩) NB244_275.out _).trans (hHeld.2.1)))))), ((cell_far (p := ⟨gb275, _, none⟩) NB244_275.out _).trans (((cell_far (p := ⟨gb275, _, none⟩) NB244_275.out _).trans (((cell_far (p := ⟨gb275, _, none⟩) NB244_275.out _).trans (hHeld.2.2.1)))))), ((cell_far (p := ⟨gb275, _, none⟩) NB255_275.out _).trans (((cell_far (p := ⟨gb275, _, none⟩) NB255_275.out _).trans (((cell_far (p := ⟨gb275, _, none⟩) NB255_275.out _).trans (hHeld.2.2.2.1)))))), ((cell_far (p := ⟨gb275, _, none⟩) NB255_275.out _).trans (((cell_far (p := ⟨gb275, _, none⟩) NB255_275.out _).trans (((cell_far (p := ⟨gb275, _, none⟩) NB255_275.out _).trans (hHeld.2.2.2.2))))))⟩ (fun hHeld => ?_)
    clear hK K
    refine pu_ 9 11 (bs 10 1023) HT_ ?_
    refine done_ (done_of HT_.out (by kernel_rfl)) ?_
    try go_wp2_with (first | ((with_reducible refine gate_builtin (b := .append) (xs := #[.tmp 35, .tmp 37]) rfl ?_); at_builtin; refine Kd.R_append Kd.bool (w0 := w) w.heap.size rfl (.tmp 35) (.tmp 37) 58 4 (.bool false) 1 rfl Try.underlying58 info4 rfl (by decide) (by omega) u7 x7_1 false [.bool false] (fun _ => True) (fun _ => False) rfl (by first | (go_simp; done) | (go_simp; rfl)) ?aP (fun _ hk => hk.elim) ?aF ?aO ?aB ?aS ?aL ?_; (case aP => exact rfl); (case aB => exact (hB HB)); (case aF => exact (fun _ _ => trivial)); (case aO => exact (ra (Kd.R_mono (fs3_ HO_7.out BK275.out) (fun _ hk => trivial)))); (case aS => exact (below_size (hB HB))); (case aL => have := LMc50.out; omega); intro v280 w73 ho hb hg hat; rw [← Ny279.out] at ho; have HO281 := Aside0.mk (ho); replace HO_245000 := Aside0.mk (Kd.R_over' (ra (fm3_ HO_245000 BK275)) (Kd.R_typed (ra (fm3_ HO_7 BK275))) (by decide) hg); replace HO_245001 := Aside0.mk (Kd.R_over' (ra (fm3_ HO_245001 BK275)) (Kd.R_typed (ra (fm3_ HO_7 BK275))) (by decide) hg); replace HO_245002 := Aside0.mk (Kd.R_over' (ra (fm3_ HO_245002 BK275)) (Kd.R_typed (ra (fm3_ HO_7 BK275))) (by decide) hg); replace BK233 := Aside0.mk (blk_grown (g := gb233) (o := .cells #[.slice none 0 0, .slice none 0 0, .slice none 0 0] 26 (0, 0)) (bx BK233) hg (Kd.R_ne HO_7.out BK233.out (by decide))); replace BK244 := Aside0.mk (blk_grown (g := gb244) (o := .cells #[.slice Ao55 x245000_1.length co55, .slice Ao56 x245001_1.length co56, .slice Ao57 x245002_1.length co57] 26 (0, 0)) (bx BK244) hg (Kd.R_ne HO_7.out BK244.out (by decide))); replace BK255 := Aside0.mk (blk_grown (g := gb255) (o := .cells #[.int .i64 ((rd_T28 l0 x22_1).f0), .int .i64 ((rd_T28 l0 x22_1).f1)] 28 (0, 0)) (bx BK255) hg (Kd.R_ne HO_7.out BK255.out (by decide))); replace HO267 := Aside0.mk (Kd.R_over' (ra (fm3_ HO267 BK275)) (Kd.R_typed (ra (fm3_ HO_7 BK275))) (by decide) hg); replace HO270 := Aside0.mk (Kd.R_over' (ra (fm3_ HO270 BK275)) (Kd.R_typed (ra (fm3_ HO_7 BK275))) (by decide) hg); replace HO273 := Aside0.mk (Kd.R_over' (ra (fm3_ HO273 BK275)) (Kd.R_typed (ra (fm3_ HO_7 BK275))) (by decide) hg); replace BK275 := Aside0.mk (blk_grown (g := gb275) (o := .cells #[.slice Ao67 t265.length co67, .slice Ao69 t268.length co69, .slice Ao71 t271.length co71] 26 (0, 0)) (bw0_ BK275) hg (Kd.R_ne HO_7.out BK275.out (by decide))); replace HB := Aside0.mk (hb); clear HO_7; clear ho hb hg hat))
    go_roundg k1
    case measure => have := HK1.out; omega
    case rel => exact ⟨(y279), (wrap64 (x22_1 + 1)), (x245000_1), (x245001_1), (x245002_1), (.slice Ao55 x245000_1.length co55), (.slice Ao56 x245001_1.length co56), (.slice Ao57 x245002_1.length co57), (by first | rfl | (simp; done) | (simp [*]; done)), H', ⟨by have := HK1.out; omega⟩, ⟨ra HO281.out⟩, rm_ HO_245000 (fun _ hk => hk.2.2), rm_ HO_245001 (fun _ hk => hk.2.2), rm_ HO_245002 (fun _ hk => trivial), ⟨bw0_ BK233⟩, ⟨bw0_ BK244⟩, ⟨hB HB⟩⟩
   subst c19
   rw [if_pos rfl] at H
   by_cases c20 : x7_1.length < 140737488355328
   rotate_left
   ·rw [if_neg c20] at H
    exact absurd H (by simp)
   rw [if_pos c20] at H
   have LMc20 := Aside0.mk c20
   clear c20
   obtain ⟨y276, hy276⟩ : ∃ y_ : List Bool, y_ = (x7_1 ++ [true]) := ⟨_, rfl⟩
   replace H : (spec_PlayPair.l0 k1 y276 l0 (l0.length : Int) (wrap64 (x22_1 + 1)) t265 t268 t271) = some (r1, r2, r3, r4, r5) := by first | (rw [hy276]; with_reducible exact H) | (have H2_ := (Option.bind_some _ _).symm.trans H; rw [hy276]; with_reducible exact H2_) | (have H2_ := (Option.bind_some _ _).symm.trans H; with_reducible exact H2_) | with_reducible exact H | (rw [hy276]; exact H) | exact H
   have Ny276 := Aside0.mk hy276
   clear hy276
   have H' := Aside0.mk H
   clear H
   have p254 : 0 ≤ (x22_1 : Int) := od_
   have q254 : x22_1 < (l0.length : Int) := od_
   obtain ⟨ad254, e254, hx254_0, hx254_1⟩ := at_T28 HR0.out x22_1 p254 q254
   cases e254
   replace hx254_0 := hc_ HB hx254_0
   replace hx254_1 := hc_ HB hx254_1
   replace p254 := eq_true p254
   replace q254 := eq_true q254
   try go_wp2_with (first | ((with_reducible refine gate_dst (N := 9) rfl ?_); refine bx_ev 9 #[.int .i64 0, .int .i64 0] 28 ?_; intro gb255 hg w21 hbox hb; have BK255 := Aside0.mk (hbox); have GW255 := gw_ hg HB; have GE255 := gw_ hg HB; have NB233_255 := nl_ hg BK233; have NB255_233 := ng_ hg BK233; have NB244_255 := nl_ hg BK244; have NB255_244 := ng_ hg BK244; replace HO_7 := rb_ HO_7 hb; replace HO_245000 := rb_ HO_245000 hb; replace HO_245001 := rb_ HO_245001 hb; replace HO_245002 := rb_ HO_245002 hb; replace BK233 := bb_ BK233 hb; replace BK244 := bb_ BK244 hb; replace HB := bst_ HB hb; clear hb hbox hg; obtain ⟨hnb22, hnc22⟩ := nn_ NB255_233; obtain ⟨hnb23, hnc23⟩ := nn_ NB255_244; obtain ⟨hcz24_0, hcz24_1⟩ := bcs2_ BK255; obtain ⟨hfz24_0, hfz24_1⟩ := bz2_ BK255; obtain ⟨Ao25, co25, eo25⟩ := Kd.R_slice HO_245000.out; subst eo25; obtain ⟨Ao26, co26, eo26⟩ := Kd.R_slice HO_245001.out; subst eo26; obtain ⟨Ao27, co27, eo27⟩ := Kd.R_slice HO_245002.out; subst eo27))
   have n0_ : Aside0 (Kd.R Kd.bool 4 ((w21.setCell ⟨gb255, 0, none⟩ (.int .i64 ((rd_T28 l0 x22_1).f0))).setCell ⟨gb255, 1, none⟩ (.int .i64 ((rd_T28 l0 x22_1).f1))) w.heap.size (fun _ => True) u7 x7_1) := ⟨ro_ (Kd.R_far (p := ⟨gb255, 1, none⟩) (Kd.R_far (p := ⟨gb255, 0, none⟩) (Kd.R_types HO_7.out BK255.out (by decide)) (fun _ hk => hk.2) (.int .i64 ((rd_T28 l0 x22_1).f0))) (fun _ hk => hk.2) (.int .i64 ((rd_T28 l0 x22_1).f1))) (fun _ hk => trivial)⟩
   have n1_ : Aside0 (Kd.R (Kd.int .i64) 3 ((w21.setCell ⟨gb255, 0, none⟩ (.int .i64 ((rd_T28 l0 x22_1).f0))).setCell ⟨gb255, 1, none⟩ (.int .i64 ((rd_T28 l0 x22_1).f1))) w.heap.size (fun k_ => no_ (.slice Ao26 x245001_1.length co26) k_) (.slice Ao25 x245000_1.length co25) x245000_1) := ⟨ro_ (Kd.R_far (p := ⟨gb255, 1, none⟩) (Kd.R_far (p := ⟨gb255, 0, none⟩) (Kd.R_types HO_245000.out BK255.out (by decide)) (fun _ hk => hk.2) (.int .i64 ((rd_T28 l0 x22_1).f0))) (fun _ hk => hk.2) (.int .i64 ((rd_T28 l0 x22_1).f1))) (fun _ hk => hk.1)⟩
   have n2_ : Aside0 (Kd.R (Kd.int .i64) 3 ((w21.setCell ⟨gb255, 0, none⟩ (.int .i64 ((rd_T28 l0 x22_1).f0))).setCell ⟨gb255, 1, none⟩ (.int .i64 ((rd_T28 l0 x22_1).f1))) w.heap.size (fun k_ => no_ (.slice Ao25 x245000_1.length co25) k_) (.slice Ao26 x245001_1.length co26) x245001_1) := ⟨ro_ (Kd.R_far (p := ⟨gb255, 1, none⟩) (Kd.R_far (p := ⟨gb255, 0, none⟩) (Kd.R_types HO_245001.out BK255.out (by decide)) (fun _ hk => hk.2) (.int .i64 ((rd_T28 l0 x22_1).f0))) (fun _ hk => hk.2) (.int .i64 ((rd_T28 l0 x22_1).f1))) (fun _ hk => hk.1)⟩
   have n3_ : Aside0 (Kd.R k36 36 ((w21.setCell ⟨gb255, 0, none⟩ (.int .i64 ((rd_T28 l0 x22_1).f0))).setCell ⟨gb255, 1, none⟩ (.int .i64 ((rd_T28 l0 x22_1).f1))) w.heap.size (fun _ => True) (.slice Ao27 x245002_1.length co27) x245002_1) := ⟨ro_ (Kd.R_far (p := ⟨gb255, 1, none⟩) (Kd.R_far (p := ⟨gb255, 0, none⟩) (Kd.R_types HO_245002.out BK255.out (by decide)) (fun _ hk => hk.2) (.int .i64 ((rd_T28 l0 x22_1).f0))) (fun _ hk => hk.2) (.int .i64 ((rd_T28 l0 x22_1).f1))) (fun _ hk => trivial)⟩
   have n4_ : Aside0 (((w21.setCell ⟨gb255, 0, none⟩ (.int .i64 ((rd_T28 l0 x22_1).f0))).setCell ⟨gb255, 1, none⟩ (.int .i64 ((rd_T28 l0 x22_1).f1))).heap[gb233]? = some (.cells #[.slice none 0 0, .slice none 0 0, .slice none 0 0] 26 (0, 0))) := ⟨bw1_ BK233 NB233_255⟩
   have n5_ : Aside0 (((w21.setCell ⟨gb255, 0, none⟩ (.int .i64 ((rd_T28 l0 x22_1).f0))).setCell ⟨gb255, 1, none⟩ (.int .i64 ((rd_T28 l0 x22_1).f1))).heap[gb244]? = some (.cells #[.slice Ao25 x245000_1.length co25, .slice Ao26 x245001_1.length co26, .slice Ao27 x245002_1.length co27] 26 (0, 0))) := ⟨bw1_ BK244 NB244_255⟩
   have n6_ : Aside0 (((w21.setCell ⟨gb255, 0, none⟩ (.int .i64 ((rd_T28 l0 x22_1).f0))).setCell ⟨gb255, 1, none⟩ (.int .i64 ((rd_T28 l0 x22_1).f1))).heap[gb255]? = some (.cells #[.int .i64 ((rd_T28 l0 x22_1).f0), .int .i64 ((rd_T28 l0 x22_1).f1)] 28 (0, 0))) := ⟨bw0_ BK255⟩
   have n7_ : Aside0 (Below w.heap.size w ((w21.setCell ⟨gb255, 0, none⟩ (.int .i64 ((rd_T28 l0 x22_1).f0))).setCell ⟨gb255, 1, none⟩ (.int .i64 ((rd_T28 l0 x22_1).f1)))) := ⟨hB HB⟩
   (try clear HO_7)
   (try clear HO_245000)
   (try clear HO_245001)
   (try clear HO_245002)
   (try clear BK233)
   (try clear BK244)
   (try clear BK255)
   (try clear HB)
   generalize ((w21.setCell ⟨gb255, 0, none⟩ (.int .i64 ((rd_T28 l0 x22_1).f0))).setCell ⟨gb255, 1, none⟩ (.int .i64 ((rd_T28 l0 x22_1).f1))) = w28 at n0_ n1_ n2_ n3_ n4_ n5_ n6_ n7_ ⊢
   have HO_7 := n0_
   have HO_245000 := n1_
   have HO_245001 := n2_
   have HO_245002 := n3_
   have BK233 := n4_
   have BK244 := n5_
   have BK255 := n6_
   have HB := n7_
   clear n0_ n1_ n2_ n3_ n4_ n5_ n6_ n7_
   replace HO_7 := rd_ HO_7
   replace HO_245000 := rd_ HO_245000
   replace HO_245001 := rd_ HO_245001
   replace HO_245002 := rd_ HO_245002
   replace BK233 := bd_ BK233
   replace BK244 := bd_ BK244
   replace BK255 := bd_ BK255
   replace HB := Aside0.mk (below_drew1 HB.out)
   refine start_ (n := 10) (S := fun w' => w'.cell? ⟨gb244, 0, none⟩ = some (.slice Ao25 x245000_1.length co25) ∧ w'.cell? ⟨gb244, 1, none⟩ = some (.slice Ao26 x245001_1.length co26) ∧ w'.cell? ⟨gb244, 2, none⟩ = some (.slice Ao27 x245002_1.length co27) ∧ w'.cell? ⟨gb255, 0, none⟩ = some (.int .i64 ((rd_T28 l0 x22_1).f0)) ∧ w'.cell? ⟨gb255, 1, none⟩ = some (.int .i64 ((rd_T28 l0 x22_1).f1))) (ds := []) (bs 10 0) (by kernel_rfl) rfl rfl ⟨bc_ BK244 0, bc_ BK244 1, bc_ BK244 2, bc_ BK255 0, bc_ BK255 1⟩ (fun hHeld => ?_); refine with_tabW spec_PlayPair.tab8 spec_PlayPair.bits8 (fun HT_ HW_ => ?_)
   generalize w28.drew = w29 at HO_7 HO_245000 HO_245001 HO_245002 BK233 BK244 BK255 HB hHeld ⊢
   refine tk_ 0 27 (bs 10 1) HT_ HW_ hHeld ?_
   refine tk_ 2 29 (bs 10 5) HT_ HW_ hHeld ?_
   refine join_ (σ := Value × Value × Value × Value × Value × Value × Nat) 2 (bs 10 255) (fun s_ => [(28, .agg #[s_.1, s_.2.1, s_.2.2.1]), (30, .tuple #[.agg #[s_.2.2.2.1, s_.2.2.2.2.1, s_.2.2.2.2.2.1], .bool true]), (10, .pointer (some ⟨s_.2.2.2.2.2.2, 0, none⟩)), (26, .tuple #[.agg #[s_.2.2.2.1, s_.2.2.2.2.1, s_.2.2.2.2.2.1], .bool true]), (31, .agg #[s_.2.2.2.1, s_.2.2.2.2.1, s_.2.2.2.2.2.1]), (32, .bool true)]) (fun s_ w' => (w'.cell? ⟨gb244, 0, none⟩ = some (.slice Ao25 x245000_1.length co25) ∧ w'.cell? ⟨gb244, 1, none⟩ = some (.slice Ao26 x245001_1.length co26) ∧ w'.cell? ⟨gb244, 2, none⟩ = some (.slice Ao27 x245002_1.length co27) ∧ w'.cell? ⟨gb255, 0, none⟩ = some (.int .i64 ((rd_T28 l0 x22_1).f0)) ∧ w'.cell? ⟨gb255, 1, none⟩ = some (.int .i64 ((rd_T28 l0 x22_1).f1))) ∧ (Kd.R (Kd.int .i64) 3 w' w.heap.size (fun k_ => no_ s_.2.2.2.2.1 k_ ∧ no_ (.slice Ao25 x245000_1.length co25) k_ ∧ no_ (.slice Ao26 x245001_1.length co26) k_) s_.2.2.2.1 t265) ∧ (Kd.R (Kd.int .i64) 3 w' w.heap.size (fun k_ => no_ s_.2.2.2.1 k_ ∧ no_ (.slice Ao25 x245000_1.length co25) k_ ∧ no_ (.slice Ao26 x245001_1.length co26) k_) s_.2.2.2.2.1 t268) ∧ (Kd.R k36 36 w' w.heap.size (fun k_ => no_ (.slice Ao27 x245002_1.length co27) k_) s_.2.2.2.2.2.1 t271) ∧ (Kd.R (Kd.int .i64) 3 w' w.heap.size (fun k_ => no_ s_.2.2.2.1 k_ ∧ no_ s_.2.2.2.2.1 k_ ∧ no_ (.slice Ao26 x245001_1.length co26) k_) (.slice Ao25 x245000_1.length co25) x245000_1) ∧ (Kd.R (Kd.int .i64) 3 w' w.heap.size (fun k_ => no_ s_.2.2.2.1 k_ ∧ no_ s_.2.2.2.2.1 k_ ∧ no_ (.slice Ao25 x245000_1.length co25) k_) (.slice Ao26 x245001_1.length co26) x245001_1) ∧ (Kd.R k36 36 w' w.heap.size (fun k_ => no_ s_.2.2.2.2.2.1 k_) (.slice Ao27 x245002_1.length co27) x245002_1) ∧ (Kd.R Kd.bool 4 w' w.heap.size (fun _ => True) u7 x7_1) ∧ (w'.heap[gb233]? = some (.cells #[.slice none 0 0, .slice none 0 0, .slice none 0 0] 26 (0, 0))) ∧ (w'.heap[gb244]? = some (.cells #[.slice Ao25 x245000_1.length co25, .slice Ao26 x245001_1.length co26, .slice Ao27 x245002_1.length co27] 26 (0, 0))) ∧ (w'.heap[gb255]? = some (.cells #[.int .i64 ((rd_T28 l0 x22_1).f0), .int .i64 ((rd_T28 l0 x22_1).f1)] 28 (0, 0))) ∧ (w'.heap[s_.2.2.2.2.2.2]? = some (.cells #[.slice none 0 0, .slice none 0 0, .slice none 0 0] 26 (0, 0))) ∧ (w.heap.size ≤ s_.2.2.2.2.2.2) ∧ (w.heap.size ≤ s_.2.2.2.2.2.2) ∧ (gb233 ≠ s_.2.2.2.2.2.2) ∧ (s_.2.2.2.2.2.2 ≠ gb233) ∧ (gb244 ≠ s_.2.2.2.2.2.2) ∧ (s_.2.2.2.2.2.2 ≠ gb244) ∧ (gb255 ≠ s_.2.2.2.2.2.2) ∧ (s_.2.2.2.2.2.2 ≠ gb255) ∧ (Below w.heap.size w w')) ?_ ?_
   rotate_left
   ·intro hCont
    refine two_ (i := 1) (j := 7) (Ni := some 28) (Nj := some 10) (bs 10 7) (bs 10 133) rfl rfl rfl rfl (two_of HT_.out (by kernel_rfl)) (by decide) (by decide) (fun K hK => ?_) (fun K hK => ?_)
    rotate_left
    ·skip
     refine box_step ?hg (N := 10) ?hd (cs := #[.slice none 0 0, .slice none 0 0, .slice none 0 0]) (t := 26) ?hr ?_; (case hd => rfl); (case hg => rfl); (case hr => first | (go_simp; done) | (go_simp; rfl))
     intro gb275 hg w30 hbox hb
     have BK275 := Aside0.mk (hbox)
     have GW275 := gw_ hg HB
     have GE275 := gw_ hg HB
     have NB233_275 := nl_ hg BK233
     have NB275_233 := ng_ hg BK233
     have NB244_275 := nl_ hg BK244
     have NB275_244 := ng_ hg BK244
     have NB255_275 := nl_ hg BK255
     have NB275_255 := ng_ hg BK255
     replace HO_7 := rb_ HO_7 hb
     replace HO_245000 := rb_ HO_245000 hb
     replace HO_245001 := rb_ HO_245001 hb
     replace HO_245002 := rb_ HO_245002 hb
     replace BK233 := bb_ BK233 hb
     replace BK244 := bb_ BK244 hb
     replace BK255 := bb_ BK255 hb
     replace HB := bst_ HB hb
     clear hb hbox hg
     refine hK.out _ _ ⟨bc_ BK244 0, bc_ BK244 1, bc_ BK244 2, bc_ BK255 0, bc_ BK255 1⟩ (fun hHeld => ?_)
     clear hK K
     refine nm_ 10 ?_
     refine on_ 1 (some 28) (bs 10 135) HT_ (fun K hK => ?_)
     refine goes_ Try.func25 (by kernel_rfl) rfl #[.agg #[.slice Ao25 x245000_1.length co25, .slice Ao26 x245001_1.length co26, .slice Ao27 x245002_1.length co27]] (by rfl) rfl rfl tm_ ?_
     with_reducible refine (spec_l3Own.calls _ _ x245000_1 _ _ x245001_1 _ _ x245002_1 t256 t259 t262 _ ?side1 ?side2 ?side3 ?side4 ?side5 ?side6 A17.out).mono ?_
     (case side1 => exact ca (Kd.R_reads' HO_245000.out).2.2)
     (case side2 => exact (Kd.R_reads' HO_245000.out).2.1)
     (case side3 => exact ca (Kd.R_reads' HO_245001.out).2.2)
     (case side4 => exact (Kd.R_reads' HO_245001.out).2.1)
     (case side5 => exact ca (Kd.R_reads' HO_245002.out).2.2)
     (case side6 => exact (Kd.R_reads' HO_245002.out).2.1)
     rintro e w31 ⟨v257, v260, v263, rfl, ho0, ho1, ho2, hb⟩
     refine ⟨_, rfl, ?_⟩
     have HO258 := Aside0.mk (Kd.R_lower (Kd.R_new' (Kd.R_new' ho0 (rl_ HO_245000)) (rl_ HO_245001)) (below_size (hB HB)))
     have HO261 := Aside0.mk (Kd.R_lower (Kd.R_new' (Kd.R_new' ho1 (rl_ HO_245000)) (rl_ HO_245001)) (below_size (hB HB)))
     have HO264 := Aside0.mk (Kd.R_lower (Kd.R_new' ho2 (rl_ HO_245002)) (below_size (hB HB)))
     replace HO_7 := rb_ HO_7 hb
     replace HO_245000 := rt2_ HO_245000 hb ho0 ho1
     replace HO_245001 := rt2_ HO_245001 hb ho0 ho1
     replace HO_245002 := re_ HO_245002 ho2 hb
     replace BK233 := bb_ BK233 hb
     replace BK244 := bb_ BK244 hb
     replace BK255 := bb_ BK255 hb
     replace BK275 := bb_ BK275 hb
     replace HB := bst_ HB hb
     clear hb ho0 ho1 ho2
     obtain ⟨Ao32, co32, eo32⟩ := Kd.R_slice HO258.out
     (first | subst eo32 | (injection eo32 with f1_ f2_ f3_; have f4_ := f1_.symm; have f5_ := f3_.symm; clear f1_ f2_ f3_; subst f4_; subst f5_))
     obtain ⟨Ao33, co33, eo33⟩ := Kd.R_slice HO261.out
     (first | subst eo33 | (injection eo33 with f1_ f2_ f3_; have f4_ := f1_.symm; have f5_ := f3_.symm; clear f1_ f2_ f3_; subst f4_; subst f5_))
     obtain ⟨Ao34, co34, eo34⟩ := Kd.R_slice HO264.out
     (first | subst eo34 | (injection eo34 with f1_ f2_ f3_; have f4_ := f1_.symm; have f5_ := f3_.symm; clear f1_ f2_ f3_; subst f4_; subst f5_))
     refine hK.out _ _ ⟨bc_ BK244 0, bc_ BK244 1, bc_ BK244 2, bc_ BK255 0, bc_ BK255 1⟩ (fun hHeld => ?_)
     clear hK K
     refine nm_ 28 ?_
     refine on_ 3 (some 30) (bs 10 143) HT_ (fun K hK => ?_)
     refine goes_ Try.func24 (by kernel_rfl) rfl #[.agg #[.slice Ao32 t256.length co32, .slice Ao33 t259.length co33, .slice Ao34 t262.length co34], .agg #[.int .i64 ((rd_T28 l0 x22_1).f0), .int .i64 ((rd_T28 l0 x22_1).f1)]] (by rfl) rfl rfl tm_ ?_
     with_reducible refine (spec_l3Step.calls k1 (fun k_ => some k_ = (.slice Ao32 t256.length co32 : Value).ownBlock) (.slice Ao32 t256.length co32) t256 (fun k_ => some k_ = (.slice Ao33 t259.length co33 : Value).ownBlock) (.slice Ao33 t259.length co33) t259 (fun k_ => some k_ = (.slice Ao34 t262.length co34 : Value).ownBlock) (.slice Ao34 t262.length co34) t262 ((rd_T28 l0 x22_1).f0) ((rd_T28 l0 x22_1).f1) t265 t268 t271 true w _ ?side1 ?side2 ?side3 ?side4 ?side5 ?side6 A18.out).mono ?_
     (case side1 => exact hB HB)
     (case side2 => exact Kd.R_tight rfl HO258.out)
     (case side3 => exact fun k_ e_ => (HO258.out.1 k_ e_.symm).1.1)
     (case side4 => exact Kd.R_tight rfl HO261.out)
     (case side5 => exact fun k_ e_ => (HO261.out.1 k_ e_.symm).1.1)
     (case side6 => exact Kd.R_tight rfl HO264.out)
     rintro e w35 ⟨v266, v269, v272, rfl, ho0, ho1, ho2, hb, hkp⟩
     refine ⟨_, rfl, ?_⟩
     have HO267 := Aside0.mk (Kd.R_mono (ok' := fun k_ => no_ v269 k_ ∧ no_ (.slice Ao25 x245000_1.length co25) k_ ∧ no_ (.slice Ao26 x245001_1.length co26) k_) ho0 (fun k_ hk_ => ⟨hk_.2, Or.elim hk_.1 (fun hs_ => Or.elim hs_ (fun hs_ => fun e_ => ((((Kd.R_apart' HO_245000.out (Kd.R_typed HO264.out) (by decide))).1 k_ e_.symm).1.1.2) hs_) (fun hs_ => Or.elim hs_ (fun hs_ => fun e_ => ((((Kd.R_apart' HO_245000.out (Kd.R_typed HO264.out) (by decide))).1 k_ e_.symm).1.2) hs_) (fun hs_ => fun e_ => ((((Kd.R_apart' HO_245000.out (Kd.R_typed HO264.out) (by decide))).1 k_ e_.symm).2) hs_))) (fun hn_ => (Kd.fresh' (rl_ HO_245000) k_ hn_)), Or.elim hk_.1 (fun hs_ => Or.elim hs_ (fun hs_ => fun e_ => ((((Kd.R_apart' HO_245001.out (Kd.R_typed HO264.out) (by decide))).1 k_ e_.symm).1.1.2) hs_) (fun hs_ => Or.elim hs_ (fun hs_ => fun e_ => ((((Kd.R_apart' HO_245001.out (Kd.R_typed HO264.out) (by decide))).1 k_ e_.symm).1.2) hs_) (fun hs_ => fun e_ => ((((Kd.R_apart' HO_245001.out (Kd.R_typed HO264.out) (by decide))).1 k_ e_.symm).2) hs_))) (fun hn_ => (Kd.fresh' (rl_ HO_245001) k_ hn_))⟩))
     have HO270 := Aside0.mk (Kd.R_mono (ok' := fun k_ => no_ v266 k_ ∧ no_ (.slice Ao25 x245000_1.length co25) k_ ∧ no_ (.slice Ao26 x245001_1.length co26) k_) ho1 (fun k_ hk_ => ⟨hk_.2, Or.elim hk_.1 (fun hs_ => Or.elim hs_ (fun hs_ => fun e_ => ((((Kd.R_apart' HO_245000.out (Kd.R_typed HO264.out) (by decide))).1 k_ e_.symm).1.1.2) hs_) (fun hs_ => Or.elim hs_ (fun hs_ => fun e_ => ((((Kd.R_apart' HO_245000.out (Kd.R_typed HO264.out) (by decide))).1 k_ e_.symm).1.2) hs_) (fun hs_ => fun e_ => ((((Kd.R_apart' HO_245000.out (Kd.R_typed HO264.out) (by decide))).1 k_ e_.symm).2) hs_))) (fun hn_ => (Kd.fresh' (rl_ HO_245000) k_ hn_)), Or.elim hk_.1 (fun hs_ => Or.elim hs_ (fun hs_ => fun e_ => ((((Kd.R_apart' HO_245001.out (Kd.R_typed HO264.out) (by decide))).1 k_ e_.symm).1.1.2) hs_) (fun hs_ => Or.elim hs_ (fun hs_ => fun e_ => ((((Kd.R_apart' HO_245001.out (Kd.R_typed HO264.out) (by decide))).1 k_ e_.symm).1.2) hs_) (fun hs_ => fun e_ => ((((Kd.R_apart' HO_245001.out (Kd.R_typed HO264.out) (by decide))).1 k_ e_.symm).2) hs_))) (fun hn_ => (Kd.fresh' (rl_ HO_245001) k_ hn_))⟩))
     have HO273 := Aside0.mk (Kd.R_mono (ok' := fun k_ => no_ (.slice Ao27 x245002_1.length co27) k_) ho2 (fun k_ hk_ => Or.elim hk_ (fun hs_ => Or.elim hs_ (fun hs_ => fun e_ => ((((Kd.R_apart' (Kd.R_apart' HO_245002.out (Kd.R_typed HO258.out) (by decide)) (Kd.R_typed HO261.out) (by decide))).1 k_ e_.symm).1.2) hs_) (fun hs_ => Or.elim hs_ (fun hs_ => fun e_ => ((((Kd.R_apart' (Kd.R_apart' HO_245002.out (Kd.R_typed HO258.out) (by decide)) (Kd.R_typed HO261.out) (by decide))).1 k_ e_.symm).2) hs_) (fun hs_ => fun e_ => ((((Kd.R_apart' (Kd.R_apart' HO_245002.out (Kd.R_typed HO258.out) (by decide)) (Kd.R_typed HO261.out) (by decide))).1 k_ e_.symm).1.1.2) hs_))) (fun hn_ => (Kd.fresh' (rl_ HO_245002) k_ hn_))))
     replace HO_7 := Aside0.mk (Kd.R_mono (ok' := fun k_ => True) (Kd.R_keptB ((Kd.R_apart' (Kd.R_apart' (Kd.R_apart' HO_7.out (Kd.R_typed HO258.out) (by decide)) (Kd.R_typed HO261.out) (by decide)) (Kd.R_typed HO264.out) (by decide))) hkp (fun k_ hk_ hs_ => Or.elim hs_ (fun e_ => (hk_.1.1.2) e_) (fun e_ => Or.elim e_ (fun e_ => (hk_.1.2) e_) (fun e_ => (hk_.2) e_)))) (fun k_ hk_ => trivial))
     replace HO_245000 := Aside0.mk (Kd.R_mono (ok' := fun k_ => no_ (.slice Ao26 x245001_1.length co26) k_ ∧ no_ v266 k_ ∧ no_ v269 k_) (Kd.R_keptB ((Kd.R_apart' HO_245000.out (Kd.R_typed HO264.out) (by decide))) hkp (fun k_ hk_ hs_ => Or.elim hs_ (fun e_ => (hk_.1.1.2) e_) (fun e_ => Or.elim e_ (fun e_ => (hk_.1.2) e_) (fun e_ => (hk_.2) e_)))) (fun k_ hk_ => ⟨hk_.1.1.1.1, fun e_ => Or.elim (ho0.1 k_ e_.symm).1 (fun hs_ => hk_.2.1 hs_) (fun hn_ => Nat.not_le.2 hk_.2.2 hn_), fun e_ => Or.elim (ho1.1 k_ e_.symm).1 (fun hs_ => hk_.2.1 hs_) (fun hn_ => Nat.not_le.2 hk_.2.2 hn_)⟩))
     replace HO_245001 := Aside0.mk (Kd.R_mono (ok' := fun k_ => no_ (.slice Ao25 x245000_1.length co25) k_ ∧ no_ v266 k_ ∧ no_ v269 k_) (Kd.R_keptB ((Kd.R_apart' HO_245001.out (Kd.R_typed HO264.out) (by decide))) hkp (fun k_ hk_ hs_ => Or.elim hs_ (fun e_ => (hk_.1.1.2) e_) (fun e_ => Or.elim e_ (fun e_ => (hk_.1.2) e_) (fun e_ => (hk_.2) e_)))) (fun k_ hk_ => ⟨hk_.1.1.1.1, fun e_ => Or.elim (ho0.1 k_ e_.symm).1 (fun hs_ => hk_.2.1 hs_) (fun hn_ => Nat.not_le.2 hk_.2.2 hn_), fun e_ => Or.elim (ho1.1 k_ e_.symm).1 (fun hs_ => hk_.2.1 hs_) (fun hn_ => Nat.not_le.2 hk_.2.2 hn_)⟩))
     replace HO_245002 := Aside0.mk (Kd.R_mono (ok' := fun k_ => no_ v272 k_) (Kd.R_keptB ((Kd.R_apart' (Kd.R_apart' HO_245002.out (Kd.R_typed HO258.out) (by decide)) (Kd.R_typed HO261.out) (by decide))) hkp (fun k_ hk_ hs_ => Or.elim hs_ (fun e_ => (hk_.1.2) e_) (fun e_ => Or.elim e_ (fun e_ => (hk_.2) e_) (fun e_ => (hk_.1.1.2) e_)))) (fun k_ hk_ => fun e_ => Or.elim (ho2.1 k_ e_.symm) (fun hs_ => hk_.2.1 hs_) (fun hn_ => Nat.not_le.2 hk_.2.2 hn_)))
     replace BK233 := Aside0.mk (blk_kept (ba BK233.out) hkp (fun hs_ => Or.elim hs_ (kne_ HO258 BK233) (fun e_ => Or.elim e_ (kne_ HO261 BK233) (kne_ HO264 BK233))))
     replace BK244 := Aside0.mk (blk_kept (ba BK244.out) hkp (fun hs_ => Or.elim hs_ (kne_ HO258 BK244) (fun e_ => Or.elim e_ (kne_ HO261 BK244) (kne_ HO264 BK244))))
     replace BK255 := Aside0.mk (blk_kept (ba BK255.out) hkp (fun hs_ => Or.elim hs_ (kne_ HO258 BK255) (fun e_ => Or.elim e_ (kne_ HO261 BK255) (kne_ HO264 BK255))))
     replace BK275 := Aside0.mk (blk_kept (ba BK275.out) hkp (fun hs_ => Or.elim hs_ (kne_ HO258 BK275) (fun e_ => Or.elim e_ (kne_ HO261 BK275) (kne_ HO264 BK275))))
     replace HB := Aside0.mk (hb)
     clear HO258 HO261 HO264
     clear hb ho0 ho1 ho2
     refine hK.out _ _ ⟨bc_ BK244 0, bc_ BK244 1, bc_ BK244 2, bc_ BK255 0, bc_ BK255 1⟩ (fun hHeld => ?_)
     clear hK K
     refine nm_ 30 ?_
     refine pu_ 4 26 (bs 10 159) HT_ ?_
     refine pu_ 5 31 (bs 10 191) HT_ ?_
     refine pu_ 6 32 (bs 10 255) HT_ ?_
     exact norm_ (by simp only [putAll, Act.put, List.setIfInBounds_toArray, List.set_cons_zero, List.set_cons_succ]) (hCont (.slice Ao32 t256.length co32, .slice Ao33 t259.length co33, .slice Ao34 t262.length co34, v266, v269, v272, gb275) _ ⟨hHeld, (ra HO267.out), (ra HO270.out), (ra HO273.out), (rm_ HO_245000 (fun _ hk => ⟨hk.2.1, ⟨hk.2.2, hk.1⟩⟩)).out, (rm_ HO_245001 (fun _ hk => ⟨hk.2.1, ⟨hk.2.2, hk.1⟩⟩)).out, (ra HO_245002.out), (ra HO_7.out), (ba BK233.out), (ba BK244.out), (ba BK255.out), (ba BK275.out), GW275.out, GE275.out, NB233_275.out, NB275_233.out, NB244_275.out, NB275_244.out, NB255_275.out, NB275_255.out, (hB HB)⟩)
    skip
    refine goes_ Try.func25 (by kernel_rfl) rfl #[.agg #[.slice Ao25 x245000_1.length co25, .slice Ao26 x245001_1.length co26, .slice Ao27 x245002_1.length co27]] (by rfl) rfl rfl tm_ ?_
    with_reducible refine (spec_l3Own.calls _ _ x245000_1 _ _ x245001_1 _ _ x245002_1 t256 t259 t262 _ ?side1 ?side2 ?side3 ?side4 ?side5 ?side6 A17.out).mono ?_
    (case side1 => exact ca (Kd.R_reads' HO_245000.out).2.2)
    (case side2 => exact (Kd.R_reads' HO_245000.out).2.1)
    (case side3 => exact ca (Kd.R_reads' HO_245001.out).2.2)
    (case side4 => exact (Kd.R_reads' HO_245001.out).2.1)
    (case side5 => exact ca (Kd.R_reads' HO_245002.out).2.2)
    (case side6 => exact (Kd.R_reads' HO_245002.out).2.1)
    rintro e w30 ⟨v257, v260, v263, rfl, ho0, ho1, ho2, hb⟩
    refine ⟨_, rfl, ?_⟩
    have HO258 := Aside0.mk (Kd.R_lower (Kd.R_new' (Kd.R_new' ho0 (rl_ HO_245000)) (rl_ HO_245001)) (below_size (hB HB)))
    have HO261 := Aside0.mk (Kd.R_lower (Kd.R_new' (Kd.R_new' ho1 (rl_ HO_245000)) (rl_ HO_245001)) (below_size (hB HB)))
    have HO264 := Aside0.mk (Kd.R_lower (Kd.R_new' ho2 (rl_ HO_245002)) (below_size (hB HB)))
    replace HO_7 := rb_ HO_7 hb
    replace HO_245000 := rt2_ HO_245000 hb ho0 ho1
    replace HO_245001 := rt2_ HO_245001 hb ho0 ho1
    replace HO_245002 := re_ HO_245002 ho2 hb
    replace BK233 := bb_ BK233 hb
    replace BK244 := bb_ BK244 hb
    replace BK255 := bb_ BK255 hb
    replace HB := bst_ HB hb
    clear hb ho0 ho1 ho2
    obtain ⟨Ao31, co31, eo31⟩ := Kd.R_slice HO258.out
    (first | subst eo31 | (injection eo31 with f1_ f2_ f3_; have f4_ := f1_.symm; have f5_ := f3_.symm; clear f1_ f2_ f3_; subst f4_; subst f5_))
    obtain ⟨Ao32, co32, eo32⟩ := Kd.R_slice HO261.out
    (first | subst eo32 | (injection eo32 with f1_ f2_ f3_; have f4_ := f1_.symm; have f5_ := f3_.symm; clear f1_ f2_ f3_; subst f4_; subst f5_))
    obtain ⟨Ao33, co33, eo33⟩ := Kd.R_slice HO264.out
    (first | subst eo33 | (injection eo33 with f1_ f2_ f3_; have f4_ := f1_.symm; have f5_ := f3_.symm; clear f1_ f2_ f3_; subst f4_; subst f5_))
    refine hK.out _ _ ⟨bc_ BK244 0, bc_ BK244 1, bc_ BK244 2, bc_ BK255 0, bc_ BK255 1⟩ (fun hHeld => ?_)
    clear hK K
    refine nm_ 28 ?_
    refine two_ (i := 3) (j := 7) (Ni := some 30) (Nj := some 10) (bs 10 15) (bs 10 135) rfl rfl rfl rfl (two_of HT_.out (by kernel_rfl)) (by decide) (by decide) (fun K hK => ?_) (fun K hK => ?_)
    ·skip
     refine goes_ Try.func24 (by kernel_rfl) rfl #[.agg #[.slice Ao31 t256.length co31, .slice Ao32 t259.length co32, .slice Ao33 t262.length co33], .agg #[.int .i64 ((rd_T28 l0 x22_1).f0), .int .i64 ((rd_T28 l0 x22_1).f1)]] (by rfl) rfl rfl tm_ ?_
     with_reducible refine (spec_l3Step.calls k1 (fun k_ => some k_ = (.slice Ao31 t256.length co31 : Value).ownBlock) (.slice Ao31 t256.length co31) t256 (fun k_ => some k_ = (.slice Ao32 t259.length co32 : Value).ownBlock) (.slice Ao32 t259.length co32) t259 (fun k_ => some k_ = (.slice Ao33 t262.length co33 : Value).ownBlock) (.slice Ao33 t262.length co33) t262 ((rd_T28 l0 x22_1).f0) ((rd_T28 l0 x22_1).f1) t265 t268 t271 true w _ ?side1 ?side2 ?side3 ?side4 ?side5 ?side6 A18.out).mono ?_
     (case side1 => exact hB HB)
     (case side2 => exact Kd.R_tight rfl HO258.out)
     (case side3 => exact fun k_ e_ => (HO258.out.1 k_ e_.symm).1.1)
     (case side4 => exact Kd.R_tight rfl HO261.out)
     (case side5 => exact fun k_ e_ => (HO261.out.1 k_ e_.symm).1.1)
     (case side6 => exact Kd.R_tight rfl HO264.out)
     rintro e w34 ⟨v266, v269, v272, rfl, ho0, ho1, ho2, hb, hkp⟩
     refine ⟨_, rfl, ?_⟩
     have HO267 := Aside0.mk (Kd.R_mono (ok' := fun k_ => no_ v269 k_ ∧ no_ (.slice Ao25 x245000_1.length co25) k_ ∧ no_ (.slice Ao26 x245001_1.length co26) k_) ho0 (fun k_ hk_ => ⟨hk_.2, Or.elim hk_.1 (fun hs_ => Or.elim hs_ (fun hs_ => fun e_ => ((((Kd.R_apart' HO_245000.out (Kd.R_typed HO264.out) (by decide))).1 k_ e_.symm).1.1.2) hs_) (fun hs_ => Or.elim hs_ (fun hs_ => fun e_ => ((((Kd.R_apart' HO_245000.out (Kd.R_typed HO264.out) (by decide))).1 k_ e_.symm).1.2) hs_) (fun hs_ => fun e_ => ((((Kd.R_apart' HO_245000.out (Kd.R_typed HO264.out) (by decide))).1 k_ e_.symm).2) hs_))) (fun hn_ => (Kd.fresh' (rl_ HO_245000) k_ hn_)), Or.elim hk_.1 (fun hs_ => Or.elim hs_ (fun hs_ => fun e_ => ((((Kd.R_apart' HO_245001.out (Kd.R_typed HO264.out) (by decide))).1 k_ e_.symm).1.1.2) hs_) (fun hs_ => Or.elim hs_ (fun hs_ => fun e_ => ((((Kd.R_apart' HO_245001.out (Kd.R_typed HO264.out) (by decide))).1 k_ e_.symm).1.2) hs_) (fun hs_ => fun e_ => ((((Kd.R_apart' HO_245001.out (Kd.R_typed HO264.out) (by decide))).1 k_ e_.symm).2) hs_))) (fun hn_ => (Kd.fresh' (rl_ HO_245001) k_ hn_))⟩))
     have HO270 := Aside0.mk (Kd.R_mono (ok' := fun k_ => no_ v266 k_ ∧ no_ (.slice Ao25 x245000_1.length co25) k_ ∧ no_ (.slice Ao26 x245001_1.length co26) k_) ho1 (fun k_ hk_ => ⟨hk_.2, Or.elim hk_.1 (fun hs_ => Or.elim hs_ (fun hs_ => fun e_ => ((((Kd.R_apart' HO_245000.out (Kd.R_typed HO264.out) (by decide))).1 k_ e_.symm).1.1.2) hs_) (fun hs_ => Or.elim hs_ (fun hs_ => fun e_ => ((((Kd.R_apart' HO_245000.out (Kd.R_typed HO264.out) (by decide))).1 k_ e_.symm).1.2) hs_) (fun hs_ => fun e_ => ((((Kd.R_apart' HO_245000.out (Kd.R_typed HO264.out) (by decide))).1 k_ e_.symm).2) hs_))) (fun hn_ => (Kd.fresh' (rl_ HO_245000) k_ hn_)), Or.elim hk_.1 (fun hs_ => Or.elim hs_ (fun hs_ => fun e_ => ((((Kd.R_apart' HO_245001.out (Kd.R_typed HO264.out) (by decide))).1 k_ e_.symm).1.1.2) hs_) (fun hs_ => Or.elim hs_ (fun hs_ => fun e_ => ((((Kd.R_apart' HO_245001.out (Kd.R_typed HO264.out) (by decide))).1 k_ e_.symm).1.2) hs_) (fun hs_ => fun e_ => ((((Kd.R_apart' HO_245001.out (Kd.R_typed HO264.out) (by decide))).1 k_ e_.symm).2) hs_))) (fun hn_ => (Kd.fresh' (rl_ HO_245001) k_ hn_))⟩))
     have HO273 := Aside0.mk (Kd.R_mono (ok' := fun k_ => no_ (.slice Ao27 x245002_1.length co27) k_) ho2 (fun k_ hk_ => Or.elim hk_ (fun hs_ => Or.elim hs_ (fun hs_ => fun e_ => ((((Kd.R_apart' (Kd.R_apart' HO_245002.out (Kd.R_typed HO258.out) (by decide)) (Kd.R_typed HO261.out) (by decide))).1 k_ e_.symm).1.2) hs_) (fun hs_ => Or.elim hs_ (fun hs_ => fun e_ => ((((Kd.R_apart' (Kd.R_apart' HO_245002.out (Kd.R_typed HO258.out) (by decide)) (Kd.R_typed HO261.out) (by decide))).1 k_ e_.symm).2) hs_) (fun hs_ => fun e_ => ((((Kd.R_apart' (Kd.R_apart' HO_245002.out (Kd.R_typed HO258.out) (by decide)) (Kd.R_typed HO261.out) (by decide))).1 k_ e_.symm).1.1.2) hs_))) (fun hn_ => (Kd.fresh' (rl_ HO_245002) k_ hn_))))
     replace HO_7 := Aside0.mk (Kd.R_mono (ok' := fun k_ => True) (Kd.R_keptB ((Kd.R_apart' (Kd.R_apart' (Kd.R_apart' HO_7.out (Kd.R_typed HO258.out) (by decide)) (Kd.R_typed HO261.out) (by decide)) (Kd.R_typed HO264.out) (by decide))) hkp (fun k_ hk_ hs_ => Or.elim hs_ (fun e_ => (hk_.1.1.2) e_) (fun e_ => Or.elim e_ (fun e_ => (hk_.1.2) e_) (fun e_ => (hk_.2) e_)))) (fun k_ hk_ => trivial))
     replace HO_245000 := Aside0.mk (Kd.R_mono (ok' := fun k_ => no_ (.slice Ao26 x245001_1.length co26) k_ ∧ no_ v266 k_ ∧ no_ v269 k_) (Kd.R_keptB ((Kd.R_apart' HO_245000.out (Kd.R_typed HO264.out) (by decide))) hkp (fun k_ hk_ hs_ => Or.elim hs_ (fun e_ => (hk_.1.1.2) e_) (fun e_ => Or.elim e_ (fun e_ => (hk_.1.2) e_) (fun e_ => (hk_.2) e_)))) (fun k_ hk_ => ⟨hk_.1.1.1.1, fun e_ => Or.elim (ho0.1 k_ e_.symm).1 (fun hs_ => hk_.2.1 hs_) (fun hn_ => Nat.not_le.2 hk_.2.2 hn_), fun e_ => Or.elim (ho1.1 k_ e_.symm).1 (fun hs_ => hk_.2.1 hs_) (fun hn_ => Nat.not_le.2 hk_.2.2 hn_)⟩))
     replace HO_245001 := Aside0.mk (Kd.R_mono (ok' := fun k_ => no_ (.slice Ao25 x245000_1.length co25) k_ ∧ no_ v266 k_ ∧ no_ v269 k_) (Kd.R_keptB ((Kd.R_apart' HO_245001.out (Kd.R_typed HO264.out) (by decide))) hkp (fun k_ hk_ hs_ => Or.elim hs_ (fun e_ => (hk_.1.1.2) e_) (fun e_ => Or.elim e_ (fun e_ => (hk_.1.2) e_) (fun e_ => (hk_.2) e_)))) (fun k_ hk_ => ⟨hk_.1.1.1.1, fun e_ => Or.elim (ho0.1 k_ e_.symm).1 (fun hs_ => hk_.2.1 hs_) (fun hn_ => Nat.not_le.2 hk_.2.2 hn_), fun e_ => Or.elim (ho1.1 k_ e_.symm).1 (fun hs_ => hk_.2.1 hs_) (fun hn_ => Nat.not_le.2 hk_.2.2 hn_)⟩))
     replace HO_245002 := Aside0.mk (Kd.R_mono (ok' := fun k_ => no_ v272 k_) (Kd.R_keptB ((Kd.R_apart' (Kd.R_apart' HO_245002.out (Kd.R_typed HO258.out) (by decide)) (Kd.R_typed HO261.out) (by decide))) hkp (fun k_ hk_ hs_ => Or.elim hs_ (fun e_ => (hk_.1.2) e_) (fun e_ => Or.elim e_ (fun e_ => (hk_.2) e_) (fun e_ => (hk_.1.1.2) e_)))) (fun k_ hk_ => fun e_ => Or.elim (ho2.1 k_ e_.symm) (fun hs_ => hk_.2.1 hs_) (fun hn_ => Nat.not_le.2 hk_.2.2 hn_)))
     replace BK233 := Aside0.mk (blk_kept (ba BK233.out) hkp (fun hs_ => Or.elim hs_ (kne_ HO258 BK233) (fun e_ => Or.elim e_ (kne_ HO261 BK233) (kne_ HO264 BK233))))
     replace BK244 := Aside0.mk (blk_kept (ba BK244.out) hkp (fun hs_ => Or.elim hs_ (kne_ HO258 BK244) (fun e_ => Or.elim e_ (kne_ HO261 BK244) (kne_ HO264 BK244))))
     replace BK255 := Aside0.mk (blk_kept (ba BK255.out) hkp (fun hs_ => Or.elim hs_ (kne_ HO258 BK255) (fun e_ => Or.elim e_ (kne_ HO261 BK255) (kne_ HO264 BK255))))
     replace HB := Aside0.mk (hb)
     clear HO258 HO261 HO264
     clear hb ho0 ho1 ho2
     refine hK.out _ _ ⟨bc_ BK244 0, bc_ BK244 1, bc_ BK244 2, bc_ BK255 0, bc_ BK255 1⟩ (fun hHeld => ?_)
     clear hK K
     refine nm_ 30 ?_
     refine pu_ 4 26 (bs 10 31) HT_ ?_
     refine pu_ 5 31 (bs 10 63) HT_ ?_
     refine pu_ 6 32 (bs 10 127) HT_ ?_
     refine on_ 7 (some 10) (bs 10 255) HT_ (fun K hK => ?_)
     refine box_step ?hg (N := 10) ?hd (cs := #[.slice none 0 0, .slice none 0 0, .slice none 0 0]) (t := 26) ?hr ?_; (case hd => rfl); (case hg => rfl); (case hr => first | (go_simp; done) | (go_simp; rfl))
     intro gb275 hg w35 hbox hb
     have BK275 := Aside0.mk (hbox)
     have GW275 := gw_ hg HB
     have GE275 := gw_ hg HB
     have NB233_275 := nl_ hg BK233
     have NB275_233 := ng_ hg BK233
     have NB244_275 := nl_ hg BK244
     have NB275_244 := ng_ hg BK244
     have NB255_275 := nl_ hg BK255
     have NB275_255 := ng_ hg BK255
     replace HO_7 := rb_ HO_7 hb
     replace HO_245000 := rb_ HO_245000 hb
     replace HO_245001 := rb_ HO_245001 hb
     replace HO_245002 := rb_ HO_245002 hb
     replace HO267 := rb_ HO267 hb
     replace HO270 := rb_ HO270 hb
     replace HO273 := rb_ HO273 hb
     replace BK233 := bb_ BK233 hb
     replace BK244 := bb_ BK244 hb
     replace BK255 := bb_ BK255 hb
     replace HB := bst_ HB hb
     clear hb hbox hg
     refine hK.out _ _ ⟨bc_ BK244 0, bc_ BK244 1, bc_ BK244 2, bc_ BK255 0, bc_ BK255 1⟩ (fun hHeld => ?_)
     clear hK K
     refine nm_ 10 ?_
     exact norm_ (by simp only [putAll, Act.put, List.setIfInBounds_toArray, List.set_cons_zero, List.set_cons_succ]) (hCont (.slice Ao31 t256.length co31, .slice Ao32 t259.length co32, .slice Ao33 t262.length co33, v266, v269, v272, gb275) _ ⟨hHeld, (ra HO267.out), (ra HO270.out), (ra HO273.out), (rm_ HO_245000 (fun _ hk => ⟨hk.2.1, ⟨hk.2.2, hk.1⟩⟩)).out, (rm_ HO_245001 (fun _ hk => ⟨hk.2.1, ⟨hk.2.2, hk.1⟩⟩)).out, (ra HO_245002.out), (ra HO_7.out), (ba BK233.out), (ba BK244.out), (ba BK255.out), (ba BK275.out), GW275.out, GE275.out, NB233_275.out, NB275_233.out, NB244_275.out, NB275_244.out, NB255_275.out, NB275_255.out, (hB HB)⟩)
    skip
    refine box_step ?hg (N := 10) ?hd (cs := #[.slice none 0 0, .slice none 0 0, .slice none 0 0]) (t := 26) ?hr ?_; (case hd => rfl); (case hg => rfl); (case hr => first | (go_simp; done) | (go_simp; rfl))
    intro gb275 hg w31 hbox hb
    have BK275 := Aside0.mk (hbox)
    have GW275 := gw_ hg HB
    have GE275 := gw_ hg HB
    have NB233_275 := nl_ hg BK233
    have NB275_233 := ng_ hg BK233
    have NB244_275 := nl_ hg BK244
    have NB275_244 := ng_ hg BK244
    have NB255_275 := nl_ hg BK255
    have NB275_255 := ng_ hg BK255
    replace HO_7 := rb_ HO_7 hb
    replace HO_245000 := rb_ HO_245000 hb
    replace HO_245001 := rb_ HO_245001 hb
    replace HO_245002 := rb_ HO_245002 hb
    replace HO258 := rb_ HO258 hb
    replace HO261 := rb_ HO261 hb
    replace HO264 := rb_ HO264 hb
    replace BK233 := bb_ BK233 hb
    replace BK244 := bb_ BK244 hb
    replace BK255 := bb_ BK255 hb
    replace HB := bst_ HB hb
    clear hb hbox hg
    obtain ⟨Ao32, co32, eo32⟩ := Kd.R_slice HO258.out
    (first | subst eo32 | (injection eo32 with f1_ f2_ f3_; have f4_ := f1_.symm; have f5_ := f3_.symm; clear f1_ f2_ f3_; subst f4_; subst f5_))
    obtain ⟨Ao33, co33, eo33⟩ := Kd.R_slice HO261.out
    (first | subst eo33 | (injection eo33 with f1_ f2_ f3_; have f4_ := f1_.symm; have f5_ := f3_.symm; clear f1_ f2_ f3_; subst f4_; subst f5_))
    obtain ⟨Ao34, co34, eo34⟩ := Kd.R_slice HO264.out
    (first | subst eo34 | (injection eo34 with f1_ f2_ f3_; have f4_ := f1_.symm; have f5_ := f3_.symm; clear f1_ f2_ f3_; subst f4_; subst f5_))
    refine hK.out _ _ ⟨bc_ BK244 0, bc_ BK244 1, bc_ BK244 2, bc_ BK255 0, bc_ BK255 1⟩ (fun hHeld => ?_)
    clear hK K
    refine nm_ 10 ?_
    refine on_ 3 (some 30) (bs 10 143) HT_ (fun K hK => ?_)
    refine goes_ Try.func24 (by kernel_rfl) rfl #[.agg #[.slice Ao32 t256.length co32, .slice Ao33 t259.length co33, .slice Ao34 t262.length co34], .agg #[.int .i64 ((rd_T28 l0 x22_1).f0), .int .i64 ((rd_T28 l0 x22_1).f1)]] (by rfl) rfl rfl tm_ ?_
    with_reducible refine (spec_l3Step.calls k1 (fun k_ => some k_ = (.slice Ao32 t256.length co32 : Value).ownBlock) (.slice Ao32 t256.length co32) t256 (fun k_ => some k_ = (.slice Ao33 t259.length co33 : Value).ownBlock) (.slice Ao33 t259.length co33) t259 (fun k_ => some k_ = (.slice Ao34 t262.length co34 : Value).ownBlock) (.slice Ao34 t262.length co34) t262 ((rd_T28 l0 x22_1).f0) ((rd_T28 l0 x22_1).f1) t265 t268 t271 true w _ ?side1 ?side2 ?side3 ?side4 ?side5 ?side6 A18.out).mono ?_
    (case side1 => exact hB HB)
    (case side2 => exact Kd.R_tight rfl HO258.out)
    (case side3 => exact fun k_ e_ => (HO258.out.1 k_ e_.symm).1.1)
    (case side4 => exact Kd.R_tight rfl HO261.out)
    (case side5 => exact fun k_ e_ => (HO261.out.1 k_ e_.symm).1.1)
    (case side6 => exact Kd.R_tight rfl HO264.out)
    rintro e w35 ⟨v266, v269, v272, rfl, ho0, ho1, ho2, hb, hkp⟩
    refine ⟨_, rfl, ?_⟩
    have HO267 := Aside0.mk (Kd.R_mono (ok' := fun k_ => no_ v269 k_ ∧ no_ (.slice Ao25 x245000_1.length co25) k_ ∧ no_ (.slice Ao26 x245001_1.length co26) k_) ho0 (fun k_ hk_ => ⟨hk_.2, Or.elim hk_.1 (fun hs_ => Or.elim hs_ (fun hs_ => fun e_ => ((((Kd.R_apart' HO_245000.out (Kd.R_typed HO264.out) (by decide))).1 k_ e_.symm).1.1.2) hs_) (fun hs_ => Or.elim hs_ (fun hs_ => fun e_ => ((((Kd.R_apart' HO_245000.out (Kd.R_typed HO264.out) (by decide))).1 k_ e_.symm).1.2) hs_) (fun hs_ => fun e_ => ((((Kd.R_apart' HO_245000.out (Kd.R_typed HO264.out) (by decide))).1 k_ e_.symm).2) hs_))) (fun hn_ => (Kd.fresh' (rl_ HO_245000) k_ hn_)), Or.elim hk_.1 (fun hs_ => Or.elim hs_ (fun hs_ => fun e_ => ((((Kd.R_apart' HO_245001.out (Kd.R_typed HO264.out) (by decide))).1 k_ e_.symm).1.1.2) hs_) (fun hs_ => Or.elim hs_ (fun hs_ => fun e_ => ((((Kd.R_apart' HO_245001.out (Kd.R_typed HO264.out) (by decide))).1 k_ e_.symm).1.2) hs_) (fun hs_ => fun e_ => ((((Kd.R_apart' HO_245001.out (Kd.R_typed HO264.out) (by decide))).1 k_ e_.symm).2) hs_))) (fun hn_ => (Kd.fresh' (rl_ HO_245001) k_ hn_))⟩))
    have HO270 := Aside0.mk (Kd.R_mono (ok' := fun k_ => no_ v266 k_ ∧ no_ (.slice Ao25 x245000_1.length co25) k_ ∧ no_ (.slice Ao26 x245001_1.length co26) k_) ho1 (fun k_ hk_ => ⟨hk_.2, Or.elim hk_.1 (fun hs_ => Or.elim hs_ (fun hs_ => fun e_ => ((((Kd.R_apart' HO_245000.out (Kd.R_typed HO264.out) (by decide))).1 k_ e_.symm).1.1.2) hs_) (fun hs_ => Or.elim hs_ (fun hs_ => fun e_ => ((((Kd.R_apart' HO_245000.out (Kd.R_typed HO264.out) (by decide))).1 k_ e_.symm).1.2) hs_) (fun hs_ => fun e_ => ((((Kd.R_apart' HO_245000.out (Kd.R_typed HO264.out) (by decide))).1 k_ e_.symm).2) hs_))) (fun hn_ => (Kd.fresh' (rl_ HO_245000) k_ hn_)), Or.elim hk_.1 (fun hs_ => Or.elim hs_ (fun hs_ => fun e_ => ((((Kd.R_apart' HO_245001.out (Kd.R_typed HO264.out) (by decide))).1 k_ e_.symm).1.1.2) hs_) (fun hs_ => Or.elim hs_ (fun hs_ => fun e_ => ((((Kd.R_apart' HO_245001.out (Kd.R_typed HO264.out) (by decide))).1 k_ e_.symm).1.2) hs_) (fun hs_ => fun e_ => ((((Kd.R_apart' HO_245001.out (Kd.R_typed HO264.out) (by decide))).1 k_ e_.symm).2) hs_))) (fun hn_ => (Kd.fresh' (rl_ HO_245001) k_ hn_))⟩))
    have HO273 := Aside0.mk (Kd.R_mono (ok' := fun k_ => no_ (.slice Ao27 x245002_1.length co27) k_) ho2 (fun k_ hk_ => Or.elim hk_ (fun hs_ => Or.elim hs_ (fun hs_ => fun e_ => ((((Kd.R_apart' (Kd.R_apart' HO_245002.out (Kd.R_typed HO258.out) (by decide)) (Kd.R_typed HO261.out) (by decide))).1 k_ e_.symm).1.2) hs_) (fun hs_ => Or.elim hs_ (fun hs_ => fun e_ => ((((Kd.R_apart' (Kd.R_apart' HO_245002.out (Kd.R_typed HO258.out) (by decide)) (Kd.R_typed HO261.out) (by decide))).1 k_ e_.symm).2) hs_) (fun hs_ => fun e_ => ((((Kd.R_apart' (Kd.R_apart' HO_245002.out (Kd.R_typed HO258.out) (by decide)) (Kd.R_typed HO261.out) (by decide))).1 k_ e_.symm).1.1.2) hs_))) (fun hn_ => (Kd.fresh' (rl_ HO_245002) k_ hn_))))
    replace HO_7 := Aside0.mk (Kd.R_mono (ok' := fun k_ => True) (Kd.R_keptB ((Kd.R_apart' (Kd.R_apart' (Kd.R_apart' HO_7.out (Kd.R_typed HO258.out) (by decide)) (Kd.R_typed HO261.out) (by decide)) (Kd.R_typed HO264.out) (by decide))) hkp (fun k_ hk_ hs_ => Or.elim hs_ (fun e_ => (hk_.1.1.2) e_) (fun e_ => Or.elim e_ (fun e_ => (hk_.1.2) e_) (fun e_ => (hk_.2) e_)))) (fun k_ hk_ => trivial))
    replace HO_245000 := Aside0.mk (Kd.R_mono (ok' := fun k_ => no_ (.slice Ao26 x245001_1.length co26) k_ ∧ no_ v266 k_ ∧ no_ v269 k_) (Kd.R_keptB ((Kd.R_apart' HO_245000.out (Kd.R_typed HO264.out) (by decide))) hkp (fun k_ hk_ hs_ => Or.elim hs_ (fun e_ => (hk_.1.1.2) e_) (fun e_ => Or.elim e_ (fun e_ => (hk_.1.2) e_) (fun e_ => (hk_.2) e_)))) (fun k_ hk_ => ⟨hk_.1.1.1.1, fun e_ => Or.elim (ho0.1 k_ e_.symm).1 (fun hs_ => hk_.2.1 hs_) (fun hn_ => Nat.not_le.2 hk_.2.2 hn_), fun e_ => Or.elim (ho1.1 k_ e_.symm).1 (fun hs_ => hk_.2.1 hs_) (fun hn_ => Nat.not_le.2 hk_.2.2 hn_)⟩))
    replace HO_245001 := Aside0.mk (Kd.R_mono (ok' := fun k_ => no_ (.slice Ao25 x245000_1.length co25) k_ ∧ no_ v266 k_ ∧ no_ v269 k_) (Kd.R_keptB ((Kd.R_apart' HO_245001.out (Kd.R_typed HO264.out) (by decide))) hkp (fun k_ hk_ hs_ => Or.elim hs_ (fun e_ => (hk_.1.1.2) e_) (fun e_ => Or.elim e_ (fun e_ => (hk_.1.2) e_) (fun e_ => (hk_.2) e_)))) (fun k_ hk_ => ⟨hk_.1.1.1.1, fun e_ => Or.elim (ho0.1 k_ e_.symm).1 (fun hs_ => hk_.2.1 hs_) (fun hn_ => Nat.not_le.2 hk_.2.2 hn_), fun e_ => Or.elim (ho1.1 k_ e_.symm).1 (fun hs_ => hk_.2.1 hs_) (fun hn_ => Nat.not_le.2 hk_.2.2 hn_)⟩))
    replace HO_245002 := Aside0.mk (Kd.R_mono (ok' := fun k_ => no_ v272 k_) (Kd.R_keptB ((Kd.R_apart' (Kd.R_apart' HO_245002.out (Kd.R_typed HO258.out) (by decide)) (Kd.R_typed HO261.out) (by decide))) hkp (fun k_ hk_ hs_ => Or.elim hs_ (fun e_ => (hk_.1.2) e_) (fun e_ => Or.elim e_ (fun e_ => (hk_.2) e_) (fun e_ => (hk_.1.1.2) e_)))) (fun k_ hk_ => fun e_ => Or.elim (ho2.1 k_ e_.symm) (fun hs_ => hk_.2.1 hs_) (fun hn_ => Nat.not_le.2 hk_.2.2 hn_)))
    replace BK233 := Aside0.mk (blk_kept (ba BK233.out) hkp (fun hs_ => Or.elim hs_ (kne_ HO258 BK233) (fun e_ => Or.elim e_ (kne_ HO261 BK233) (kne_ HO264 BK233))))
    replace BK244 := Aside0.mk (blk_kept (ba BK244.out) hkp (fun hs_ => Or.elim hs_ (kne_ HO258 BK244) (fun e_ => Or.elim e_ (kne_ HO261 BK244) (kne_ HO264 BK244))))
    replace BK255 := Aside0.mk (blk_kept (ba BK255.out) hkp (fun hs_ => Or.elim hs_ (kne_ HO258 BK255) (fun e_ => Or.elim e_ (kne_ HO261 BK255) (kne_ HO264 BK255))))
    replace BK275 := Aside0.mk (blk_kept (ba BK275.out) hkp (fun hs_ => Or.elim hs_ (kne_ HO258 BK275) (fun e_ => Or.elim e_ (kne_ HO261 BK275) (kne_ HO264 BK275))))
    replace HB := Aside0.mk (hb)
    clear HO258 HO261 HO264
    clear hb ho0 ho1 ho2
    refine hK.out _ _ ⟨bc_ BK244 0, bc_ BK244 1, bc_ BK244 2, bc_ BK255 0, bc_ BK255 1⟩ (fun hHeld => ?_)
    clear hK K
    refine nm_ 30 ?_
    refine pu_ 4 26 (bs 10 159) HT_ ?_
    refine pu_ 5 31 (bs 10 191) HT_ ?_
    refine pu_ 6 32 (bs 10 255) HT_ ?_
    exact norm_ (by simp only [putAll, Act.put, List.setIfInBounds_toArray, List.set_cons_zero, List.set_cons_succ]) (hCont (.slice Ao32 t256.length co32, .slice Ao33 t259.length co33, .slice Ao34 t262.length co34, v266, v269, v272, gb275) _ ⟨hHeld, (ra HO267.out), (ra HO270.out), (ra HO273.out), (rm_ HO_245000 (fun _ hk => ⟨hk.2.1, ⟨hk.2.2, hk.1⟩⟩)).out, (rm_ HO_245001 (fun _ hk => ⟨hk.2.1, ⟨hk.2.2, hk.1⟩⟩)).out, (ra HO_245002.out), (ra HO_7.out), (ba BK233.out), (ba BK244.out), (ba BK255.out), (ba BK275.out), GW275.out, GE275.out, NB233_275.out, NB275_233.out, NB244_275.out, NB275_244.out, NB255_275.out, NB275_255.out, (hB HB)⟩)
   rintro ⟨v257, v260, v263, v266, v269, v272, gb275⟩ w36 ⟨hS_, h0_, h1_, h2_, h3_, h4_, h5_, h6_, h7_, h8_, h9_, h10_, h11_, h12_, h13_, h14_, h15_, h16_, h17_, h18_, h19_⟩
   try dsimp only at h0_ h1_ h2_ h3_ h4_ h5_ h6_ h7_ h8_ h9_ h10_ h11_ h12_ h13_ h14_ h15_ h16_ h17_ h18_ h19_
   have HO267 := Aside0.mk h0_
   have HO270 := Aside0.mk h1_
   have HO273 := Aside0.mk h2_
   have BK275 := Aside0.mk h10_
   have GW275 := Aside0.mk h11_
   have GE275 := Aside0.mk h12_
   have NB233_275 := Aside0.mk h13_
   have NB275_233 := Aside0.mk h14_
   have NB244_275 := Aside0.mk h15_
   have NB275_244 := Aside0.mk h16_
   have NB255_275 := Aside0.mk h17_
   have NB275_255 := Aside0.mk h18_
   replace HO_245000 := Aside0.mk h3_
   replace HO_245001 := Aside0.mk h4_
   replace HO_245002 := Aside0.mk h5_
   replace HO_7 := Aside0.mk h6_
   replace BK233 := Aside0.mk h7_
   replace BK244 := Aside0.mk h8_
   replace BK255 := Aside0.mk h9_
   replace HB := Aside0.mk h19_
   clear h0_ h1_ h2_ h3_ h4_ h5_ h6_ h7_ h8_ h9_ h10_ h11_ h12_ h13_ h14_ h15_ h16_ h17_ h18_ h19_
   have hHeld : w36.cell? ⟨gb244, 0, none⟩ = some (.slice Ao25 x245000_1.length co25) ∧ w36.cell? ⟨gb244, 1, none⟩ = some (.slice Ao26 x245001_1.length co26) ∧ w36.cell? ⟨gb244, 2, none⟩ = some (.slice Ao27 x245002_1.length co27) ∧ w36.cell? ⟨gb255, 0, none⟩ = some (.int .i64 ((rd_T28 l0 x22_1).f0)) ∧ w36.cell? ⟨gb255, 1, none⟩ = some (.int .i64 ((rd_T28 l0 x22_1).f1)) := hS_
   obtain ⟨Ao37, co37, eo37⟩ := Kd.R_slice HO267.out
   (first | subst eo37 | (injection eo37 with f1_ f2_ f3_; have f4_ := f1_.symm; have f5_ := f3_.symm; clear f1_ f2_ f3_; subst f4_; subst f5_))
   obtain ⟨Ao39, co39, eo39⟩ := Kd.R_slice HO270.out
   (first | subst eo39 | (injection eo39 with f1_ f2_ f3_; have f4_ := f1_.symm; have f5_ := f3_.symm; clear f1_ f2_ f3_; subst f4_; subst f5_))
   obtain ⟨Ao41, co41, eo41⟩ := Kd.R_slice HO273.out
   (first | subst eo41 | (injection eo41 with f1_ f2_ f3_; have f4_ := f1_.symm; have f5_ := f3_.symm; clear f1_ f2_ f3_; subst f4_; subst f5_))
   refine norm_ (a' := ?_) ?_ ?_
   rotate_left
   ·simp only [putAll, Act.put, List.setIfInBounds_toArray, List.set_cons_zero, List.set_cons_succ]
    rfl
   refine on_ 8 (none) (bs 10 511) HT_ (fun K hK => ?_)
   have hs38 : w36.cell? ⟨gb275, 0, none⟩ = some (.slice none 0 0) := bc_ BK275 0
   have hfs38 := bz_ BK275 0
   have hns38_0 := NB233_275.out
   have hns38_1 := NB244_275.out
   have hns38_2 := NB255_275.out
   have hms38_0 := NB275_233.out
   have hms38_1 := NB275_244.out
   have hms38_2 := NB275_255.out
   have hs40 : w36.cell? ⟨gb275, 1, none⟩ = some (.slice none 0 0) := bc_ BK275 1
   have hfs40 := bz_ BK275 1
   have hns40_0 := NB233_275.out
   have hns40_1 := NB244_275.out
   have hns40_2 := NB255_275.out
   have hms40_0 := NB275_233.out
   have hms40_1 := NB275_244.out
   have hms40_2 := NB275_255.out
   have hs42 : w36.cell? ⟨gb275, 2, none⟩ = some (.slice none 0 0) := bc_ BK275 2
   have hfs42 := bz_ BK275 2
   have hns42_0 := NB233_275.out
   have hns42_1 := NB244_275.out
   have hns42_2 := NB255_275.out
   have hms42_0 := NB275_233.out
   have hms42_1 := NB275_244.out
   have hms42_2 := NB275_255.out
   refine skip_ (w1 := ?_) (by rfl) rfl ?_ ?_
   rotate_left
   ·go_simp
    rfl
   refine hK.out _ _ ⟨((cell_far (p := ⟨gb275, _, none⟩) NB244_275.out _).trans (((cell_far (p := ⟨gb275, _, none⟩) NB244_275.out _).trans (((cell_far (p := ⟨gb275, _, none⟩) NB244_275.out _).trans (hHeld.1)))))), ((cell_far (p := ⟨gb275, _, none⟩) NB244_275.out _).trans (((cell_far (p := ⟨gb275, _, none⟩) NB244_275.out _).trans (((cell_far (p := ⟨gb275, _, none⟩) NB244_275.out _).trans (hHeld.2.1)))))), ((cell_far (p := ⟨gb275, _, none⟩) NB244_275.out _).trans (((cell_far (p := ⟨gb275, _, none⟩) NB244_275.out _).trans (((cell_far (p := ⟨gb275, _, none⟩) NB244_275.out _).trans (hHeld.2.2.1)))))), ((cell_far (p := ⟨gb275, _, none⟩) NB255_275.out _).trans (((cell_far (p := ⟨gb275, _, none⟩) NB255_275.out _).trans (((cell_far (p := ⟨gb275, _, none⟩) NB255_275.out _).trans (hHeld.2.2.2.1)))))), ((cell_far (p := ⟨gb275, _, none⟩) NB255_275.out _).trans (((cell_far (p := ⟨gb275, _, none⟩) NB255_275.out _).trans (((cell_far (p := ⟨gb275, _, none⟩) NB255_275.out _).trans (hHeld.2.2.2.2))))))⟩ (fun hHeld => ?_)
   clear hK K
   refine pu_ 9 11 (bs 10 1023) HT_ ?_
   refine done_ (done_of HT_.out (by kernel_rfl)) ?_
   obtain ⟨hnb43, hnc43⟩ := nn_ NB275_233
   obtain ⟨hnb44, hnc44⟩ := nn_ NB275_244
   obtain ⟨hnb45, hnc45⟩ := nn_ NB275_255
   obtain ⟨hcz46_0, hcz46_1, hcz46_2⟩ := bcs3_ BK275
   obtain ⟨hfz46_0, hfz46_1, hfz46_2⟩ := bz3_ BK275
   obtain ⟨hnb47, hnc47⟩ := nn_ NB244_233
   obtain ⟨hcz48_0, hcz48_1, hcz48_2⟩ := bcs3_ BK244
   obtain ⟨hfz48_0, hfz48_1, hfz48_2⟩ := bz3_ BK244
   try go_wp2_with (first | ((with_reducible refine gate_builtin (b := .append) (xs := #[.tmp 35, .tmp 37]) rfl ?_); at_builtin; refine Kd.R_append Kd.bool (w0 := w) w.heap.size rfl (.tmp 35) (.tmp 37) 58 4 (.bool false) 1 rfl Try.underlying58 info4 rfl (by decide) (by omega) u7 x7_1 true [.bool true] (fun _ => True) (fun _ => False) rfl (by first | (go_simp; done) | (go_simp; rfl)) ?aP (fun _ hk => hk.elim) ?aF ?aO ?aB ?aS ?aL ?_; (case aP => exact rfl); (case aB => exact (hB HB)); (case aF => exact (fun _ _ => trivial)); (case aO => exact (ra (Kd.R_mono (Kd.R_far (p := ⟨gb244, 2, none⟩) (Kd.R_far (p := ⟨gb244, 1, none⟩) (Kd.R_far (p := ⟨gb244, 0, none⟩) (Kd.R_far (p := ⟨gb275, 2, none⟩) (Kd.R_far (p := ⟨gb275, 1, none⟩) (Kd.R_far (p := ⟨gb275, 0, none⟩) (Kd.R_types (Kd.R_types HO_7.out BK275.out (by decide)) BK244.out (by decide)) (fun _ hk => hk.1.2) (.slice Ao37 t265.length co37)) (fun _ hk => hk.1.2) (.slice Ao39 t268.length co39)) (fun _ hk => hk.1.2) (.slice Ao41 t271.length co41)) (fun _ hk => hk.2) (.slice Ao37 t265.length co37)) (fun _ hk => hk.2) (.slice Ao39 t268.length co39)) (fun _ hk => hk.2) (.slice Ao41 t271.length co41)) (fun _ hk => trivial)))); (case aS => exact (below_size (hB HB))); (case aL => have := LMc20.out; omega); intro v277 w49 ho hb hg hat; rw [← Ny276.out] at ho; have HO278 := Aside0.mk (ho); replace HO_245000 := Aside0.mk (Kd.R_over' (ra (Kd.R_mono (Kd.R_mono (Kd.R_far (p := ⟨gb244, 2, none⟩) (Kd.R_far (p := ⟨gb244, 1, none⟩) (Kd.R_far (p := ⟨gb244, 0, none⟩) (Kd.R_far (p := ⟨gb275, 2, none⟩) (Kd.R_far (p := ⟨gb275, 1, none⟩) (Kd.R_far (p := ⟨gb275, 0, none⟩) (Kd.R_types (Kd.R_types HO_245000.out BK275.out (by decide)) BK244.out (by decide)) (fun _ hk => hk.1.2) (.slice Ao37 t265.length co37)) (fun _ hk => hk.1.2) (.slice Ao39 t268.length co39)) (fun _ hk => hk.1.2) (.slice Ao41 t271.length co41)) (fun _ hk => hk.2) (.slice Ao37 t265.length co37)) (fun _ hk => hk.2) (.slice Ao39 t268.length co39)) (fun _ hk => hk.2) (.slice Ao41 t271.length co41)) (fun _ h_ => h_.1)) (fun _ h_ => h_.1))) (Kd.R_typed (ra (Kd.R_mono (Kd.R_mono (Kd.R_far (p := ⟨gb244, 2, none⟩) (Kd.R_far (p := ⟨gb244, 1, none⟩) (Kd.R_far (p := ⟨gb244, 0, none⟩) (Kd.R_far (p := ⟨gb275, 2, none⟩) (Kd.R_far (p := ⟨gb275, 1, none⟩) (Kd.R_far (p := ⟨gb275, 0, none⟩) (Kd.R_types (Kd.R_types HO_7.out BK275.out (by decide)) BK244.out (by decide)) (fun _ hk => hk.1.2) (.slice Ao37 t265.length co37)) (fun _ hk => hk.1.2) (.slice Ao39 t268.length co39)) (fun _ hk => hk.1.2) (.slice Ao41 t271.length co41)) (fun _ hk => hk.2) (.slice Ao37 t265.length co37)) (fun _ hk => hk.2) (.slice Ao39 t268.length co39)) (fun _ hk => hk.2) (.slice Ao41 t271.length co41)) (fun _ h_ => h_.1)) (fun _ h_ => h_.1)))) (by decide) hg); replace HO_245001 := Aside0.mk (Kd.R_over' (ra (Kd.R_mono (Kd.R_mono (Kd.R_far (p := ⟨gb244, 2, none⟩) (Kd.R_far (p := ⟨gb244, 1, none⟩) (Kd.R_far (p := ⟨gb244, 0, none⟩) (Kd.R_far (p := ⟨gb275, 2, none⟩) (Kd.R_far (p := ⟨gb275, 1, none⟩) (Kd.R_far (p := ⟨gb275, 0, none⟩) (Kd.R_types (Kd.R_types HO_245001.out BK275.out (by decide)) BK244.out (by decide)) (fun _ hk => hk.1.2) (.slice Ao37 t265.length co37)) (fun _ hk => hk.1.2) (.slice Ao39 t268.length co39)) (fun _ hk => hk.1.2) (.slice Ao41 t271.length co41)) (fun _ hk => hk.2) (.slice Ao37 t265.length co37)) (fun _ hk => hk.2) (.slice Ao39 t268.length co39)) (fun _ hk => hk.2) (.slice Ao41 t271.length co41)) (fun _ h_ => h_.1)) (fun _ h_ => h_.1))) (Kd.R_typed (ra (Kd.R_mono (Kd.R_mono (Kd.R_far (p := ⟨gb244, 2, none⟩) (Kd.R_far (p := ⟨gb244, 1, none⟩) (Kd.R_far (p := ⟨gb244, 0, none⟩) (Kd.R_far (p := ⟨gb275, 2, none⟩) (Kd.R_far (p := ⟨gb275, 1, none⟩) (Kd.R_far (p := ⟨gb275, 0, none⟩) (Kd.R_types (Kd.R_types HO_7.out BK275.out (by decide)) BK244.out (by decide)) (fun _ hk => hk.1.2) (.slice Ao37 t265.length co37)) (fun _ hk => hk.1.2) (.slice Ao39 t268.length co39)) (fun _ hk => hk.1.2) (.slice Ao41 t271.length co41)) (fun _ hk => hk.2) (.slice Ao37 t265.length co37)) (fun _ hk => hk.2) (.slice Ao39 t268.length co39)) (fun _ hk => hk.2) (.slice Ao41 t271.length co41)) (fun _ h_ => h_.1)) (fun _ h_ => h_.1)))) (by decide) hg); replace HO_245002 := Aside0.mk (Kd.R_over' (ra (Kd.R_mono (Kd.R_mono (Kd.R_far (p := ⟨gb244, 2, none⟩) (Kd.R_far (p := ⟨gb244, 1, none⟩) (Kd.R_far (p := ⟨gb244, 0, none⟩) (Kd.R_far (p := ⟨gb275, 2, none⟩) (Kd.R_far (p := ⟨gb275, 1, none⟩) (Kd.R_far (p := ⟨gb275, 0, none⟩) (Kd.R_types (Kd.R_types HO_245002.out BK275.out (by decide)) BK244.out (by decide)) (fun _ hk => hk.1.2) (.slice Ao37 t265.length co37)) (fun _ hk => hk.1.2) (.slice Ao39 t268.length co39)) (fun _ hk => hk.1.2) (.slice Ao41 t271.length co41)) (fun _ hk => hk.2) (.slice Ao37 t265.length co37)) (fun _ hk => hk.2) (.slice Ao39 t268.length co39)) (fun _ hk => hk.2) (.slice Ao41 t271.length co41)) (fun _ h_ => h_.1)) (fun _ h_ => h_.1))) (Kd.R_typed (ra (Kd.R_mono (Kd.R_mono (Kd.R_far (p := ⟨gb244, 2, none⟩) (Kd.R_far (p := ⟨gb244, 1, none⟩) (Kd.R_far (p := ⟨gb244, 0, none⟩) (Kd.R_far (p := ⟨gb275, 2, none⟩) (Kd.R_far (p := ⟨gb275, 1, none⟩) (Kd.R_far (p := ⟨gb275, 0, none⟩) (Kd.R_types (Kd.R_types HO_7.out BK275.out (by decide)) BK244.out (by decide)) (fun _ hk => hk.1.2) (.slice Ao37 t265.length co37)) (fun _ hk => hk.1.2) (.slice Ao39 t268.length co39)) (fun _ hk => hk.1.2) (.slice Ao41 t271.length co41)) (fun _ hk => hk.2) (.slice Ao37 t265.length co37)) (fun _ hk => hk.2) (.slice Ao39 t268.length co39)) (fun _ hk => hk.2) (.slice Ao41 t271.length co41)) (fun _ h_ => h_.1)) (fun _ h_ => h_.1)))) (by decide) hg); replace BK233 := Aside0.mk (blk_grown (g := gb233) (o := .cells #[.slice none 0 0, .slice none 0 0, .slice none 0 0] 26 (0, 0)) (bx BK233) hg (Kd.R_ne HO_7.out BK233.out (by decide))); replace BK255 := Aside0.mk (blk_grown (g := gb255) (o := .cells #[.int .i64 ((rd_T28 l0 x22_1).f0), .int .i64 ((rd_T28 l0 x22_1).f1)] 28 (0, 0)) (bx BK255) hg (Kd.R_ne HO_7.out BK255.out (by decide))); replace HO267 := Aside0.mk (Kd.R_over' (ra (Kd.R_mono (Kd.R_mono (Kd.R_far (p := ⟨gb244, 2, none⟩) (Kd.R_far (p := ⟨gb244, 1, none⟩) (Kd.R_far (p := ⟨gb244, 0, none⟩) (Kd.R_far (p := ⟨gb275, 2, none⟩) (Kd.R_far (p := ⟨gb275, 1, none⟩) (Kd.R_far (p := ⟨gb275, 0, none⟩) (Kd.R_types (Kd.R_types HO267.out BK275.out (by decide)) BK244.out (by decide)) (fun _ hk => hk.1.2) (.slice Ao37 t265.length co37)) (fun _ hk => hk.1.2) (.slice Ao39 t268.length co39)) (fun _ hk => hk.1.2) (.slice Ao41 t271.length co41)) (fun _ hk => hk.2) (.slice Ao37 t265.length co37)) (fun _ hk => hk.2) (.slice Ao39 t268.length co39)) (fun _ hk => hk.2) (.slice Ao41 t271.length co41)) (fun _ h_ => h_.1)) (fun _ h_ => h_.1))) (Kd.R_typed (ra (Kd.R_mono (Kd.R_mono (Kd.R_far (p := ⟨gb244, 2, none⟩) (Kd.R_far (p := ⟨gb244, 1, none⟩) (Kd.R_far (p := ⟨gb244, 0, none⟩) (Kd.R_far (p := ⟨gb275, 2, none⟩) (Kd.R_far (p := ⟨gb275, 1, none⟩) (Kd.R_far (p := ⟨gb275, 0, none⟩) (Kd.R_types (Kd.R_types HO_7.out BK275.out (by decide)) BK244.out (by decide)) (fun _ hk => hk.1.2) (.slice Ao37 t265.length co37)) (fun _ hk => hk.1.2) (.slice Ao39 t268.length co39)) (fun _ hk => hk.1.2) (.slice Ao41 t271.length co41)) (fun _ hk => hk.2) (.slice Ao37 t265.length co37)) (fun _ hk => hk.2) (.slice Ao39 t268.length co39)) (fun _ hk => hk.2) (.slice Ao41 t271.length co41)) (fun _ h_ => h_.1)) (fun _ h_ => h_.1)))) (by decide) hg); replace HO270 := Aside0.mk (Kd.R_over' (ra (Kd.R_mono (Kd.R_mono (Kd.R_far (p := ⟨gb244, 2, none⟩) (Kd.R_far (p := ⟨gb244, 1, none⟩) (Kd.R_far (p := ⟨gb244, 0, none⟩) (Kd.R_far (p := ⟨gb275, 2, none⟩) (Kd.R_far (p := ⟨gb275, 1, none⟩) (Kd.R_far (p := ⟨gb275, 0, none⟩) (Kd.R_types (Kd.R_types HO270.out BK275.out (by decide)) BK244.out (by decide)) (fun _ hk => hk.1.2) (.slice Ao37 t265.length co37)) (fun _ hk => hk.1.2) (.slice Ao39 t268.length co39)) (fun _ hk => hk.1.2) (.slice Ao41 t271.length co41)) (fun _ hk => hk.2) (.slice Ao37 t265.length co37)) (fun _ hk => hk.2) (.slice Ao39 t268.length co39)) (fun _ hk => hk.2) (.slice Ao41 t271.length co41)) (fun _ h_ => h_.1)) (fun _ h_ => h_.1))) (Kd.R_typed (ra (Kd.R_mono (Kd.R_mono (Kd.R_far (p := ⟨gb244, 2, none⟩) (Kd.R_far (p := ⟨gb244, 1, none⟩) (Kd.R_far (p := ⟨gb244, 0, none⟩) (Kd.R_far (p := ⟨gb275, 2, none⟩) (Kd.R_far (p := ⟨gb275, 1, none⟩) (Kd.R_far (p := ⟨gb275, 0, none⟩) (Kd.R_types (Kd.R_types HO_7.out BK275.out (by decide)) BK244.out (by decide)) (fun _ hk => hk.1.2) (.slice Ao37 t265.length co37)) (fun _ hk => hk.1.2) (.slice Ao39 t268.length co39)) (fun _ hk => hk.1.2) (.slice Ao41 t271.length co41)) (fun _ hk => hk.2) (.slice Ao37 t265.length co37)) (fun _ hk => hk.2) (.slice Ao39 t268.length co39)) (fun _ hk => hk.2) (.slice Ao41 t271.length co41)) (fun _ h_ => h_.1)) (fun _ h_ => h_.1)))) (by decide) hg); replace HO273 := Aside0.mk (Kd.R_over' (ra (Kd.R_mono (Kd.R_mono (Kd.R_far (p := ⟨gb244, 2, none⟩) (Kd.R_far (p := ⟨gb244, 1, none⟩) (Kd.R_far (p := ⟨gb244, 0, none⟩) (Kd.R_far (p := ⟨gb275, 2, none⟩) (Kd.R_far (p := ⟨gb275, 1, none⟩) (Kd.R_far (p := ⟨gb275, 0, none⟩) (Kd.R_types (Kd.R_types HO273.out BK275.out (by decide)) BK244.out (by decide)) (fun _ hk => hk.1.2) (.slice Ao37 t265.length co37)) (fun _ hk => hk.1.2) (.slice Ao39 t268.length co39)) (fun _ hk => hk.1.2) (.slice Ao41 t271.length co41)) (fun _ hk => hk.2) (.slice Ao37 t265.length co37)) (fun _ hk => hk.2) (.slice Ao39 t268.length co39)) (fun _ hk => hk.2) (.slice Ao41 t271.length co41)) (fun _ h_ => h_.1)) (fun _ h_ => h_.1))) (Kd.R_typed (ra (Kd.R_mono (Kd.R_mono (Kd.R_far (p := ⟨gb244, 2, none⟩) (Kd.R_far (p := ⟨gb244, 1, none⟩) (Kd.R_far (p := ⟨gb244, 0, none⟩) (Kd.R_far (p := ⟨gb275, 2, none⟩) (Kd.R_far (p := ⟨gb275, 1, none⟩) (Kd.R_far (p := ⟨gb275, 0, none⟩) (Kd.R_types (Kd.R_types HO_7.out BK275.out (by decide)) BK244.out (by decide)) (fun _ hk => hk.1.2) (.slice Ao37 t265.length co37)) (fun _ hk => hk.1.2) (.slice Ao39 t268.length co39)) (fun _ hk => hk.1.2) (.slice Ao41 t271.length co41)) (fun _ hk => hk.2) (.slice Ao37 t265.length co37)) (fun _ hk => hk.2) (.slice Ao39 t268.length co39)) (fun _ hk => hk.2) (.slice Ao41 t271.length co41)) (fun _ h_ => h_.1)) (fun _ h_ => h_.1)))) (by decide) hg); replace BK244 := Aside0.mk (blk_grown (g := gb244) (o := .cells #[.slice Ao37 t265.length co37, .slice Ao39 t268.length co39, .slice Ao41 t271.length co41] 26 (0, 0)) (bw1_ BK244 NB244_275) hg (Kd.R_ne HO_7.out BK244.out (by decide))); replace BK275 := Aside0.mk (blk_grown (g := gb275) (o := .cells #[.slice Ao37 t265.length co37, .slice Ao39 t268.length co39, .slice Ao41 t271.length co41] 26 (0, 0)) (bw1_ BK275 NB275_244) hg (Kd.R_ne HO_7.out BK275.out (by decide))); replace HB := Aside0.mk (hb); clear HO_7; clear ho hb hg hat))
   go_roundg k1
   case measure => have := HK1.out; omega
   case rel => exact ⟨(y276), (wrap64 (x22_1 + 1)), (t265), (t268), (t271), (.slice Ao37 t265.length co37), (.slice Ao39 t268.length co39), (.slice Ao41 t271.length co41), (by first | rfl | (simp; done) | (simp [*]; done)), H', ⟨by have := HK1.out; omega⟩, ⟨ra HO278.out⟩, rm_ HO267 (fun _ hk => hk.1), rm_ HO270 (fun _ hk => hk.1), rm_ HO273 (fun _ hk => trivial), ⟨bw0_ BK233⟩, ⟨bw0_ BK244⟩, ⟨hB HB⟩⟩

end Go.Proofs.Ytefdgdloghhnaaa.P
