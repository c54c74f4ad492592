import Derived.Test.YthambdfgkfkcmaaF0
import Derived.Test.YthambdfgkfkcmaaF3
namespace Go.Proofs.Ythambdfgkfkcmaa.P
open Go.RowKit Go.Proofs.YthambdfgkfkcmaaW.PrintWords Go.Proofs.YthambdfgkfkcmaaW.PrintLast Go.Proofs.YthambdfgkfkcmaaW.PrintMore
attribute [local go_sem] max2_int min2_int max_two min_two max_three min_three max_four min_four   -- for this text's walks alone
set_option linter.unusedVariables false
set_option linter.unusedSimpArgs false
attribute [local go_sem high] eqA47

def impl_GoodEdges.l0 : Nat → Int → List (S47) → List (S47) → Int → Int → Option (Bool)
 | 0, _, _, _, _, _ => none
 | k + 1, x0, x1, x7, x8, x9 => if x9 < x8 then (if 0 ≤ x9 then (if x9 < (x7.length : Int) then ((impl_in.f ((rd_T47 x7 x9).f0) 0 (wrap64 (x0 - 1))).bind fun t242 => (if t242 = true then ((impl_in.f ((rd_T47 x7 x9).f1) 0 (wrap64 (x0 - 1))).bind fun t243 => (if t243 = true then (if ((rd_T47 x7 x9).f0) ≥ ((rd_T47 x7 x9).f1) then (some false) else ((impl_in.f ((rd_T47 x7 x9).f2) 1 100).bind fun t244 => (if t244 = true then (if x9 > 0 then (if 0 ≤ (wrap64 (x9 - 1)) then (if (wrap64 (x9 - 1)) < (x1.length : Int) then ((impl_byEnds.f ((rd_T47 x1 (wrap64 (x9 - 1))).f0) ((rd_T47 x1 (wrap64 (x9 - 1))).f1) ((rd_T47 x1 (wrap64 (x9 - 1))).f2) ((rd_T47 x7 x9).f0) ((rd_T47 x7 x9).f1) ((rd_T47 x7 x9).f2)).bind fun t246 => (if t246 ≥ 0 then (some false) else (impl_GoodEdges.l0 k x0 x1 x7 x8 (wrap64 (x9 + 1))))) else (none)) else (none)) else (impl_GoodEdges.l0 k x0 x1 x7 x8 (wrap64 (x9 + 1)))) else (some false)))) else (some false))) else (some false))) else (none)) else (none)) else ((impl_isSpots.f x0).bind fun t239 => (if t239 = true then (some (decide ((x1.length : Int) ≤ 40))) else (some false)))
def impl_GoodEdges.f (k : Nat) (a0 : Int) (l1 : List (S47)) : Option (Bool) := impl_GoodEdges.l0 k a0 l1 l1 (l1.length : Int) 0
theorem impl_GoodEdges.mono_l : ∀ k, (∀ y0 y1 y2 y3 y4, LeO (impl_GoodEdges.l0 k y0 y1 y2 y3 y4) (impl_GoodEdges.l0 (k + 1) y0 y1 y2 y3 y4))
 | 0 => fun _ _ _ _ _ r h => by simp [impl_GoodEdges.l0] at h
 | k + 1 => by
  have ih0 := impl_GoodEdges.mono_l k
  ·intro y0 y1 y2 y3 y4
   unfold impl_GoodEdges.l0
   repeat' first
   | (with_reducible exact ih0 _ _ _ _ _)
   | with_reducible first | exact LeO.refl _ | exact LeO.none _ | refine LeO.ite ?_ ?_ | refine LeO.bind ?_ fun _ => ?_
theorem impl_GoodEdges.mono : ∀ a0 a1 k, LeO (impl_GoodEdges.f k a0 a1) (impl_GoodEdges.f (k + 1) a0 a1) := by
 intro a0 a1 k
 have ih0 := impl_GoodEdges.mono_l k
 unfold impl_GoodEdges.f
 repeat' first
   | (with_reducible exact ih0 _ _ _ _ _)
   | with_reducible first | exact LeO.refl _ | exact LeO.none _ | refine LeO.ite ?_ ?_ | refine LeO.bind ?_ fun _ => ?_
def impl_GoodEdges.T4 : Bool × List (List Nat × List Nat) := (true, [([], []), ([0], [0]), ([], []), ([2], [2]), ([1, 3], [1, 3]), ([4], [4]), ([5, 4], [5]), ([6], [6]), ([7, 6], [6, 7]), ([6], [6]), ([9, 6], [6, 9]), ([8, 10, 6, 6], [6, 8, 10]), ([11, 6], [6, 11]), ([6, 12], [6, 12]), ([13, 11], [13]), ([14], [14]), ([15, 14], [14, 15]), ([14], [14]), ([17, 14], [14, 17]), ([16, 18, 14], [14, 16, 18]), ([14, 19], [14, 19]), ([20, 14], [20]), ([21], [21]), ([22, 21], [21, 22]), ([23, 21, 21], [21, 23]), ([24, 21], [21, 24]), ([21, 25], [21, 25]), ([26, 24], [26]), ([27], [27]), ([28, 27], [27, 28]), ([29, 27, 27], [27, 29]), ([30], [30]), ([30], [30]), ([32, 30], [30, 32]), ([31, 33, 30], [30, 31, 33]), ([34, 30], [30, 34]), ([30], [30]), ([35, 36, 30, 30], [30, 35, 36]), ([37, 30], [30, 37]), ([30, 38, 27], [27, 30, 38]), ([27, 39], [27, 39])])
def impl_GoodEdges.B4 : List Nat := [0, 1, 0, 4, 15, 31, 63, 127, 255, 127, 639, 2047, 4095, 8191, 16383, 32767, 65535, 32767, 163839, 524287, 1048575, 2097151, 4194303, 8388607, 16777215, 33554431, 67108863, 134217727, 268435455, 536870911, 1073741823, 2147483647, 2147483647, 6442450943, 17179869183, 34359738367, 2147483647, 137438953471, 274877906943, 549755813887, 1099511627775]
theorem impl_GoodEdges.tab4 : rtab .any (opsOf Try.f68 4) = impl_GoodEdges.T4 := by kernel_rfl
theorem impl_GoodEdges.bits4 : waitsOk impl_GoodEdges.T4.2 impl_GoodEdges.B4 = true := by kernel_rfl
set_option maxHeartbeats 8000000 in
set_option maxRecDepth 100000 in
theorem impl_GoodEdges.calls (k : Nat) (a0 : Int) (A1 : Option Addr) (c1 : Nat) (l1 : List (S47)) (r : Bool) (w : World) (hr1 : Kd.C k47 w A1 l1.length l1) (hc1 : l1.length ≤ c1) (h : impl_GoodEdges.f k a0 l1 = some r) :
  Calls Try.prog 68 #[.int .i64 a0, .slice A1 l1.length c1] w fun e w' => e = .returned (.bool r) ∧ Below w.heap.size w w' := by
 have hu47 := Try.underlying47
 have HR1 := Aside0.mk hr1
 have HC1 := Aside0.mk hc1
 clear hr1 hc1
 have HB := Aside0.mk (Below.refl w.heap.size w)
 have H : (impl_GoodEdges.l0 k a0 l1 l1 (l1.length : Int) 0) = some r := h
 clear h
 have H' := Aside0.mk H
 clear H
 go_enter Try.func68, Try.ntmps68
 go_wp2
 go_loopg [9] k (fun kq v9 w' => ∃ (x9_1 : Int), v9 = .int .i64 x9_1 ∧ Aside0 (impl_GoodEdges.l0 kq a0 l1 l1 (l1.length : Int) x9_1 = some r) ∧ Aside0 (kq ≤ k) ∧ Aside0 (Below w.heap.size w w'))
 case atStart => exact ⟨(0), (by first | rfl | (simp; done) | (simp [*]; done)), H', ⟨Nat.le_refl _⟩, ⟨hB HB⟩⟩
 case round =>
  clear H'
  try clear c1
  obtain ⟨x9_1, rfl, HA, HK1, HB⟩ := hrel
  cases gk with
  | zero => exact absurd HA.out (by simp [impl_GoodEdges.l0])
  | succ k1 =>
   have H := HA.out
   clear HA
   simp only [impl_GoodEdges.l0] at H
   by_cases c3 : x9_1 < (l1.length : Int)
   rotate_left
   ·rw [if_neg c3] at H
    have c3b0 : decide (x9_1 < (l1.length : Int)) = false := decide_eq_false c3
    clear c3
    replace H := Option.bind_eq_some_iff.mp H
    obtain ⟨t239, A490, H⟩ := H
    replace H : (if t239 = true then (some (decide ((l1.length : Int) ≤ 40))) else (some false)) = some r := H
    have A49 := Aside0.mk A490
    clear A490
    by_cases c50 : t239 = true
    ·subst c50
     rw [if_pos rfl] at H
     obtain rfl := Option.some.inj H
     go_wp2_with (first | ((with_reducible refine gate_dst (N := 57) rfl ?_); refine goesL_ (some 57) rfl rfl Try.func111 (by kernel_rfl) rfl #[.int .i64 a0] rfl tm_ ?_; (with_reducible refine (impl_isSpots.calls a0 true _ A49.out).mono ?_); rintro e w' ⟨rfl, ⟨nd, rfl⟩⟩; refine ⟨_, rfl, ?_⟩))
     go_ret
     exact ⟨rt_, hB HB⟩
    replace c50 := Bool.eq_false_iff.mpr c50
    subst c50
    rw [if_neg (show ¬ (false = true) by decide)] at H
    obtain rfl := Option.some.inj H
    go_wp2_with (first | ((with_reducible refine gate_dst (N := 57) rfl ?_); refine goesL_ (some 57) rfl rfl Try.func111 (by kernel_rfl) rfl #[.int .i64 a0] rfl tm_ ?_; (with_reducible refine (impl_isSpots.calls a0 false _ A49.out).mono ?_); rintro e w' ⟨rfl, ⟨nd, rfl⟩⟩; refine ⟨_, rfl, ?_⟩))
    go_ret
    exact ⟨rt_, hB HB⟩
   rw [if_pos c3] at H
   have c3b0 : decide (x9_1 < (l1.length : Int)) = true := decide_eq_true c3
   clear c3
   by_cases c4 : 0 ≤ x9_1
   rotate_left
   ·rw [if_neg c4] at H
    exact absurd H (by simp)
   rw [if_pos c4] at H
   have c4b0 : decide (0 ≤ x9_1) = true := decide_eq_true c4
   clear c4
   by_cases c5 : x9_1 < (l1.length : Int)
   rotate_left
   ·rw [if_neg c5] at H
    exact absurd H (by simp)
   rw [if_pos c5] at H
   have c5b0 : decide (x9_1 < (l1.length : Int)) = true := decide_eq_true c5
   clear c5
   replace H := Option.bind_eq_some_iff.mp H
   obtain ⟨t242, A60, H⟩ := H
   replace H : (if t242 = true then ((impl_in.f ((rd_T47 l1 x9_1).f1) 0 (wrap64 (a0 - 1))).bind fun t243 => (if t243 = true then (if ((rd_T47 l1 x9_1).f0) ≥ ((rd_T47 l1 x9_1).f1) then (some false) else ((impl_in.f ((rd_T47 l1 x9_1).f2) 1 100).bind fun t244 => (if t244 = true then (if x9_1 > 0 then (if 0 ≤ (wrap64 (x9_1 - 1)) then (if (wrap64 (x9_1 - 1)) < (l1.length : Int) then ((impl_byEnds.f ((rd_T47 l1 (wrap64 (x9_1 - 1))).f0) ((rd_T47 l1 (wrap64 (x9_1 - 1))).f1) ((rd_T47 l1 (wrap64 (x9_1 - 1))).f2) ((rd_T47 l1 x9_1).f0) ((rd_T47 l1 x9_1).f1) ((rd_T47 l1 x9_1).f2)).bind fun t246 => (if t246 ≥ 0 then (some false) else (impl_GoodEdges.l0 k1 a0 l1 l1 (l1.length : Int) (wrap64 (x9_1 + 1))))) else (none)) else (none)) else (impl_GoodEdges.l0 k1 a0 l1 l1 (l1.length : Int) (wrap64 (x9_1 + 1)))) else (some false)))) else (some false))) else (some false)) = some r := H
   have A6 := Aside0.mk A60
   clear A60
   by_cases c7 : t242 = true
   rotate_left
   ·replace c7 := Bool.eq_false_iff.mpr c7
    subst c7
    rw [if_neg (show ¬ (false = true) by decide)] at H
    obtain rfl := Option.some.inj H
    have p240 : 0 ≤ (x9_1 : Int) := od_
    have q240 : x9_1 < (l1.length : Int) := od_
    obtain ⟨ad240, e240, hx240_0, hx240_1, hx240_2⟩ := at_T47 HR1.out x9_1 p240 q240
    cases e240
    replace hx240_0 := hc_ HB hx240_0
    replace hx240_1 := hc_ HB hx240_1
    replace hx240_2 := hc_ HB hx240_2
    replace p240 := eq_true p240
    replace q240 := eq_true q240
    try go_wp2_with (first | ((with_reducible refine gate_dst (N := 6) rfl ?_); (try (refine gate_guard (by rfl) ?_; dsimp only)); refine bx_ev 6 #[.int .i64 0, .int .i64 0, .int .i64 0] 47 ?_; intro gb241 hg w45 hbox hb; have BK241 := Aside0.mk (hbox); have GW241 := gw_ hg HB; have GE241 := gw_ hg HB; replace HB := bst_ HB hb; clear hb hbox hg; obtain ⟨hcz46_0, hcz46_1, hcz46_2⟩ := bcs3_ BK241; obtain ⟨hfz46_0, hfz46_1, hfz46_2⟩ := bz3_ BK241))
    have n0_ : Aside0 ((((w45.setCell ⟨gb241, 0, none⟩ (.int .i64 ((rd_T47 l1 x9_1).f0))).setCell ⟨gb241, 1, none⟩ (.int .i64 ((rd_T47 l1 x9_1).f1))).setCell ⟨gb241, 2, none⟩ (.int .i64 ((rd_T47 l1 x9_1).f2))).heap[gb241]? = some (.cells #[.int .i64 ((rd_T47 l1 x9_1).f0), .int .i64 ((rd_T47 l1 x9_1).f1), .int .i64 ((rd_T47 l1 x9_1).f2)] 47 (0, 0))) := ⟨bw0_ BK241⟩
    have n1_ : Aside0 (Below w.heap.size w (((w45.setCell ⟨gb241, 0, none⟩ (.int .i64 ((rd_T47 l1 x9_1).f0))).setCell ⟨gb241, 1, none⟩ (.int .i64 ((rd_T47 l1 x9_1).f1))).setCell ⟨gb241, 2, none⟩ (.int .i64 ((rd_T47 l1 x9_1).f2)))) := ⟨hB HB⟩
    (try clear BK241)
    (try clear HB)
    generalize (((w45.setCell ⟨gb241, 0, none⟩ (.int .i64 ((rd_T47 l1 x9_1).f0))).setCell ⟨gb241, 1, none⟩ (.int .i64 ((rd_T47 l1 x9_1).f1))).setCell ⟨gb241, 2, none⟩ (.int .i64 ((rd_T47 l1 x9_1).f2))) = w47 at n0_ n1_ ⊢
    have BK241 := n0_
    have HB := n1_
    clear n0_ n1_
    replace BK241 := bd_ BK241
    replace HB := Aside0.mk (below_drew1 HB.out)
    refine start_ (n := 41) (S := fun w' => w'.cell? ⟨gb241, 0, none⟩ = some (.int .i64 ((rd_T47 l1 x9_1).f0)) ∧ w'.cell? ⟨gb241, 1, none⟩ = some (.int .i64 ((rd_T47 l1 x9_1).f1)) ∧ w'.cell? ⟨gb241, 2, none⟩ = some (.int .i64 ((rd_T47 l1 x9_1).f2))) (ds := []) (bs 41 0) (by kernel_rfl) rfl rfl ⟨bc_ BK241 0, bc_ BK241 1, bc_ BK241 2⟩ (fun hHeld => ?_); refine with_tabW impl_GoodEdges.tab4 impl_GoodEdges.bits4 (fun HT_ HW_ => ?_)
    generalize w47.drew = w48 at BK241 HB hHeld ⊢
    refine pu_ 0 14 (bs 41 1) HT_ ?_
    refine pu_ 2 16 (bs 41 5) HT_ ?_
    refine pu_ 3 17 (bs 41 13) HT_ ?_
    refine tk_ 1 15 (bs 41 15) HT_ HW_ hHeld ?_
    refine on_ 4 (some 18) (bs 41 31) HT_ (fun K hK => ?_)
    refine goes_ Try.func99 (by kernel_rfl) rfl #[.int .i64 ((rd_T47 l1 x9_1).f0), .int .i64 0, .int .i64 (wrap64 (a0 - 1))] (by rfl) rfl rfl tm_ ?_
    with_reducible refine (impl_in.calls ((rd_T47 l1 x9_1).f0) 0 (wrap64 (a0 - 1)) false _ A6.out).mono ?_
    rintro e w' ⟨rfl, ⟨nd, rfl⟩⟩
    refine ⟨_, rfl, ?_⟩
    refine hK.out _ _ ⟨bc_ BK241 0, bc_ BK241 1, bc_ BK241 2⟩ (fun hHeld => ?_)
    clear hK K
    refine nm_ 18 ?_
    refine pu_ 5 19 (bs 41 63) HT_ ?_
    refine pu_ 6 20 (bs 41 127) HT_ ?_
    refine pn_ 7 21 (bs 41 255) HT_ ?_
    refine pn_ 8 22 (bs 41 511) HT_ ?_
    refine pn_ 9 23 (bs 41 1023) HT_ ?_
    refine pn_ 10 24 (bs 41 2047) HT_ ?_
    refine pn_ 11 25 (bs 41 4095) HT_ ?_
    refine pn_ 12 26 (bs 41 8191) HT_ ?_
    refine pu_ 13 27 (bs 41 16383) HT_ ?_
    refine pu_ 14 28 (bs 41 32767) HT_ ?_
    refine pn_ 15 29 (bs 41 65535) HT_ ?_
    refine pn_ 16 30 (bs 41 131071) HT_ ?_
    refine pn_ 17 31 (bs 41 262143) HT_ ?_
    refine pn_ 18 32 (bs 41 524287) HT_ ?_
    refine pn_ 19 33 (bs 41 1048575) HT_ ?_
    refine pu_ 20 34 (bs 41 2097151) HT_ ?_
    refine pu_ 21 35 (bs 41 4194303) HT_ ?_
    refine pn_ 22 36 (bs 41 8388607) HT_ ?_
    refine pn_ 23 37 (bs 41 16777215) HT_ ?_
    refine pn_ 24 38 (bs 41 33554431) HT_ ?_
    refine pn_ 25 39 (bs 41 67108863) HT_ ?_
    refine pu_ 26 40 (bs 41 134217727) HT_ ?_
    refine pu_ 27 41 (bs 41 268435455) HT_ ?_
    refine pn_ 28 42 (bs 41 536870911) HT_ ?_
    refine pn_ 29 43 (bs 41 1073741823) HT_ ?_
    refine pn_ 30 44 (bs 41 2147483647) HT_ ?_
    refine pn_ 31 45 (bs 41 4294967295) HT_ ?_
    refine pn_ 32 46 (bs 41 8589934591) HT_ ?_
    refine pn_ 33 47 (bs 41 17179869183) HT_ ?_
    refine pn_ 34 48 (bs 41 34359738367) HT_ ?_
    refine pn_ 35 49 (bs 41 68719476735) HT_ ?_
    refine pn_ 36 50 (bs 41 137438953471) HT_ ?_
    refine pn_ 37 51 (bs 41 274877906943) HT_ ?_
    refine pn_ 38 52 (bs 41 549755813887) HT_ ?_
    refine pn_ 39 53 (bs 41 1099511627775) HT_ ?_
    refine pu_ 40 54 (bs 41 2199023255551) HT_ ?_
    refine done_ (done_of HT_.out (by kernel_rfl)) ?_
    try go_wp2
    go_ret
    exact ⟨rt_, hB HB⟩
   subst c7
   rw [if_pos rfl] at H
   replace H := Option.bind_eq_some_iff.mp H
   obtain ⟨t243, A80, H⟩ := H
   replace H : (if t243 = true then (if ((rd_T47 l1 x9_1).f0) ≥ ((rd_T47 l1 x9_1).f1) then (some false) else ((impl_in.f ((rd_T47 l1 x9_1).f2) 1 100).bind fun t244 => (if t244 = true then (if x9_1 > 0 then (if 0 ≤ (wrap64 (x9_1 - 1)) then (if (wrap64 (x9_1 - 1)) < (l1.length : Int) then ((impl_byEnds.f ((rd_T47 l1 (wrap64 (x9_1 - 1))).f0) ((rd_T47 l1 (wrap64 (x9_1 - 1))).f1) ((rd_T47 l1 (wrap64 (x9_1 - 1))).f2) ((rd_T47 l1 x9_1).f0) ((rd_T47 l1 x9_1).f1) ((rd_T47 l1 x9_1).f2)).bind fun t246 => (if t246 ≥ 0 then (some false) else (impl_GoodEdges.l0 k1 a0 l1 l1 (l1.length : Int) (wrap64 (x9_1 + 1))))) else (none)) else (none)) else (impl_GoodEdges.l0 k1 a0 l1 l1 (l1.length : Int) (wrap64 (x9_1 + 1)))) else (some false)))) else (some false)) = some r := H
   have A8 := Aside0.mk A80
   clear A80
   by_cases c9 : t243 = true
   rotate_left
   ·replace c9 := Bool.eq_false_iff.mpr c9
    subst c9
    rw [if_neg (show ¬ (false = true) by decide)] at H
    obtain rfl := Option.some.inj H
    have p240 : 0 ≤ (x9_1 : Int) := od_
    have q240 : x9_1 < (l1.length : Int) := od_
    obtain ⟨ad240, e240, hx240_0, hx240_1, hx240_2⟩ := at_T47 HR1.out x9_1 p240 q240
    cases e240
    replace hx240_0 := hc_ HB hx240_0
    replace hx240_1 := hc_ HB hx240_1
    replace hx240_2 := hc_ HB hx240_2
    replace p240 := eq_true p240
    replace q240 := eq_true q240
    try go_wp2_with (first | ((with_reducible refine gate_dst (N := 6) rfl ?_); (try (refine gate_guard (by rfl) ?_; dsimp only)); refine bx_ev 6 #[.int .i64 0, .int .i64 0, .int .i64 0] 47 ?_; intro gb241 hg w41 hbox hb; have BK241 := Aside0.mk (hbox); have GW241 := gw_ hg HB; have GE241 := gw_ hg HB; replace HB := bst_ HB hb; clear hb hbox hg; obtain ⟨hcz42_0, hcz42_1, hcz42_2⟩ := bcs3_ BK241; obtain ⟨hfz42_0, hfz42_1, hfz42_2⟩ := bz3_ BK241))
    have n0_ : Aside0 ((((w41.setCell ⟨gb241, 0, none⟩ (.int .i64 ((rd_T47 l1 x9_1).f0))).setCell ⟨gb241, 1, none⟩ (.int .i64 ((rd_T47 l1 x9_1).f1))).setCell ⟨gb241, 2, none⟩ (.int .i64 ((rd_T47 l1 x9_1).f2))).heap[gb241]? = some (.cells #[.int .i64 ((rd_T47 l1 x9_1).f0), .int .i64 ((rd_T47 l1 x9_1).f1), .int .i64 ((rd_T47 l1 x9_1).f2)] 47 (0, 0))) := ⟨bw0_ BK241⟩
    have n1_ : Aside0 (Below w.heap.size w (((w41.setCell ⟨gb241, 0, none⟩ (.int .i64 ((rd_T47 l1 x9_1).f0))).setCell ⟨gb241, 1, none⟩ (.int .i64 ((rd_T47 l1 x9_1).f1))).setCell ⟨gb241, 2, none⟩ (.int .i64 ((rd_T47 l1 x9_1).f2)))) := ⟨hB HB⟩
    (try clear BK241)
    (try clear HB)
    generalize (((w41.setCell ⟨gb241, 0, none⟩ (.int .i64 ((rd_T47 l1 x9_1).f0))).setCell ⟨gb241, 1, none⟩ (.int .i64 ((rd_T47 l1 x9_1).f1))).setCell ⟨gb241, 2, none⟩ (.int .i64 ((rd_T47 l1 x9_1).f2))) = w43 at n0_ n1_ ⊢
    have BK241 := n0_
    have HB := n1_
    clear n0_ n1_
    replace BK241 := bd_ BK241
    replace HB := Aside0.mk (below_drew1 HB.out)
    refine start_ (n := 41) (S := fun w' => w'.cell? ⟨gb241, 0, none⟩ = some (.int .i64 ((rd_T47 l1 x9_1).f0)) ∧ w'.cell? ⟨gb241, 1, none⟩ = some (.int .i64 ((rd_T47 l1 x9_1).f1)) ∧ w'.cell? ⟨gb241, 2, none⟩ = some (.int .i64 ((rd_T47 l1 x9_1).f2))) (ds := []) (bs 41 0) (by kernel_rfl) rfl rfl ⟨bc_ BK241 0, bc_ BK241 1, bc_ BK241 2⟩ (fun hHeld => ?_); refine with_tabW impl_GoodEdges.tab4 impl_GoodEdges.bits4 (fun HT_ HW_ => ?_)
    generalize w43.drew = w44 at BK241 HB hHeld ⊢
    refine pu_ 0 14 (bs 41 1) HT_ ?_
    refine pu_ 2 16 (bs 41 5) HT_ ?_
    refine pu_ 3 17 (bs 41 13) HT_ ?_
    refine tk_ 1 15 (bs 41 15) HT_ HW_ hHeld ?_
    refine on_ 4 (some 18) (bs 41 31) HT_ (fun K hK => ?_)
    refine goes_ Try.func99 (by kernel_rfl) rfl #[.int .i64 ((rd_T47 l1 x9_1).f0), .int .i64 0, .int .i64 (wrap64 (a0 - 1))] (by rfl) rfl rfl tm_ ?_
    with_reducible refine (impl_in.calls ((rd_T47 l1 x9_1).f0) 0 (wrap64 (a0 - 1)) true _ A6.out).mono ?_
    rintro e w' ⟨rfl, ⟨nd, rfl⟩⟩
    refine ⟨_, rfl, ?_⟩
    refine hK.out _ _ ⟨bc_ BK241 0, bc_ BK241 1, bc_ BK241 2⟩ (fun hHeld => ?_)
    clear hK K
    refine nm_ 18 ?_
    refine pu_ 5 19 (bs 41 63) HT_ ?_
    refine pu_ 6 20 (bs 41 127) HT_ ?_
    refine pu_ 7 21 (bs 41 255) HT_ ?_
    refine pu_ 9 23 (bs 41 767) HT_ ?_
    refine pu_ 10 24 (bs 41 1791) HT_ ?_
    refine tk_ 8 22 (bs 41 2047) HT_ HW_ hHeld ?_
    refine on_ 11 (some 25) (bs 41 4095) HT_ (fun K hK => ?_)
    refine goes_ Try.func99 (by kernel_rfl) rfl #[.int .i64 ((rd_T47 l1 x9_1).f1), .int .i64 0, .int .i64 (wrap64 (a0 - 1))] (by rfl) rfl rfl tm_ ?_
    with_reducible refine (impl_in.calls ((rd_T47 l1 x9_1).f1) 0 (wrap64 (a0 - 1)) false _ A8.out).mono ?_
    rintro e w' ⟨rfl, ⟨nd, rfl⟩⟩
    refine ⟨_, rfl, ?_⟩
    refine hK.out _ _ ⟨bc_ BK241 0, bc_ BK241 1, bc_ BK241 2⟩ (fun hHeld => ?_)
    clear hK K
    refine nm_ 25 ?_
    refine pu_ 12 26 (bs 41 8191) HT_ ?_
    refine pu_ 13 27 (bs 41 16383) HT_ ?_
    refine pu_ 14 28 (bs 41 32767) HT_ ?_
    refine pn_ 15 29 (bs 41 65535) HT_ ?_
    refine pn_ 16 30 (bs 41 131071) HT_ ?_
    refine pn_ 17 31 (bs 41 262143) HT_ ?_
    refine pn_ 18 32 (bs 41 524287) HT_ ?_
    refine pn_ 19 33 (bs 41 1048575) HT_ ?_
    refine pu_ 20 34 (bs 41 2097151) HT_ ?_
    refine pu_ 21 35 (bs 41 4194303) HT_ ?_
    refine pn_ 22 36 (bs 41 8388607) HT_ ?_
    refine pn_ 23 37 (bs 41 16777215) HT_ ?_
    refine pn_ 24 38 (bs 41 33554431) HT_ ?_
    refine pn_ 25 39 (bs 41 67108863) HT_ ?_
    refine pu_ 26 40 (bs 41 134217727) HT_ ?_
    refine pu_ 27 41 (bs 41 268435455) HT_ ?_
    refine pn_ 28 42 (bs 41 536870911) HT_ ?_
    refine pn_ 29 43 (bs 41 1073741823) HT_ ?_
    refine pn_ 30 44 (bs 41 2147483647) HT_ ?_
    refine pn_ 31 45 (bs 41 4294967295) HT_ ?_
    refine pn_ 32 46 (bs 41 8589934591) HT_ ?_
    refine pn_ 33 47 (bs 41 17179869183) HT_ ?_
    refine pn_ 34 48 (bs 41 34359738367) HT_ ?_
    refine pn_ 35 49 (bs 41 68719476735) HT_ ?_
    refine pn_ 36 50 (bs 41 137438953471) HT_ ?_
    refine pn_ 37 51 (bs 41 274877906943) HT_ ?_
    refine pn_ 38 52 (bs 41 549755813887) HT_ ?_
    refine pn_ 39 53 (bs 41 1099511627775) HT_ ?_
    refine pu_ 40 54 (bs 41 2199023255551) HT_ ?_
    refine done_ (done_of HT_.out (by kernel_rfl)) ?_
    try go_wp2
    go_ret
    exact ⟨rt_, hB HB⟩
   subst c9
   rw [if_pos rfl] at H
   by_cases c10 : ((rd_T47 l1 x9_1).f0) ≥ ((rd_T47 l1 x9_1).f1)
   ·rw [if_pos c10] at H
    have c10b0 : decide (((rd_T47 l1 x9_1).f1) ≤ ((rd_T47 l1 x9_1).f0)) = true := decide_eq_true c10
    clear c10
    obtain rfl := Option.some.inj H
    have p240 : 0 ≤ (x9_1 : Int) := od_
    have q240 : x9_1 < (l1.length : Int) := od_
    obtain ⟨ad240, e240, hx240_0, hx240_1, hx240_2⟩ := at_T47 HR1.out x9_1 p240 q240
    cases e240
    replace hx240_0 := hc_ HB hx240_0
    replace hx240_1 := hc_ HB hx240_1
    replace hx240_2 := hc_ HB hx240_2
    replace p240 := eq_true p240
    replace q240 := eq_true q240
    try go_wp2_with (first | ((with_reducible refine gate_dst (N := 6) rfl ?_); (try (refine gate_guard (by rfl) ?_; dsimp only)); refine bx_ev 6 #[.int .i64 0, .int .i64 0, .int .i64 0] 47 ?_; intro gb241 hg w11 hbox hb; have BK241 := Aside0.mk (hbox); have GW241 := gw_ hg HB; have GE241 := gw_ hg HB; replace HB := bst_ HB hb; clear hb hbox hg; obtain ⟨hcz12_0, hcz12_1, hcz12_2⟩ := bcs3_ BK241; obtain ⟨hfz12_0, hfz12_1, hfz12_2⟩ := bz3_ BK241))
    have n0_ : Aside0 ((((w11.setCell ⟨gb241, 0, none⟩ (.int .i64 ((rd_T47 l1 x9_1).f0))).setCell ⟨gb241, 1, none⟩ (.int .i64 ((rd_T47 l1 x9_1).f1))).setCell ⟨gb241, 2, none⟩ (.int .i64 ((rd_T47 l1 x9_1).f2))).heap[gb241]? = some (.cells #[.int .i64 ((rd_T47 l1 x9_1).f0), .int .i64 ((rd_T47 l1 x9_1).f1), .int .i64 ((rd_T47 l1 x9_1).f2)] 47 (0, 0))) := ⟨bw0_ BK241⟩
    have n1_ : Aside0 (Below w.heap.size w (((w11.setCell ⟨gb241, 0, none⟩ (.int .i64 ((rd_T47 l1 x9_1).f0))).setCell ⟨gb241, 1, none⟩ (.int .i64 ((rd_T47 l1 x9_1).f1))).setCell ⟨gb241, 2, none⟩ (.int .i64 ((rd_T47 l1 x9_1).f2)))) := ⟨hB HB⟩
    (try clear BK241)
    (try clear HB)
    generalize (((w11.setCell ⟨gb241, 0, none⟩ (.int .i64 ((rd_T47 l1 x9_1).f0))).setCell ⟨gb241, 1, none⟩ (.int .i64 ((rd_T47 l1 x9_1).f1))).setCell ⟨gb241, 2, none⟩ (.int .i64 ((rd_T47 l1 x9_1).f2))) = w13 at n0_ n1_ ⊢
    have BK241 := n0_
    have HB := n1_
    clear n0_ n1_
    replace BK241 := bd_ BK241
    replace HB := Aside0.mk (below_drew1 HB.out)
    refine start_ (n := 41) (S := fun w' => w'.cell? ⟨gb241, 0, none⟩ = some (.int .i64 ((rd_T47 l1 x9_1).f0)) ∧ w'.cell? ⟨gb241, 1, none⟩ = some (.int .i64 ((rd_T47 l1 x9_1).f1)) ∧ w'.cell? ⟨gb241, 2, none⟩ = some (.int .i64 ((rd_T47 l1 x9_1).f2))) (ds := []) (bs 41 0) (by kernel_rfl) rfl rfl ⟨bc_ BK241 0, bc_ BK241 1, bc_ BK241 2⟩ (fun hHeld => ?_); refine with_tabW impl_GoodEdges.tab4 impl_GoodEdges.bits4 (fun HT_ HW_ => ?_)
    generalize w13.drew = w14 at BK241 HB hHeld ⊢
    refine pu_ 0 14 (bs 41 1) HT_ ?_
    refine pu_ 2 16 (bs 41 5) HT_ ?_
    refine pu_ 3 17 (bs 41 13) HT_ ?_
    refine tk_ 1 15 (bs 41 15) HT_ HW_ hHeld ?_
    refine on_ 4 (some 18) (bs 41 31) HT_ (fun K hK => ?_)
    refine goes_ Try.func99 (by kernel_rfl) rfl #[.int .i64 ((rd_T47 l1 x9_1).f0), .int .i64 0, .int .i64 (wrap64 (a0 - 1))] (by rfl) rfl rfl tm_ ?_
    with_reducible refine (impl_in.calls ((rd_T47 l1 x9_1).f0) 0 (wrap64 (a0 - 1)) true _ A6.out).mono ?_
    rintro e w' ⟨rfl, ⟨nd, rfl⟩⟩
    refine ⟨_, rfl, ?_⟩
    refine hK.out _ _ ⟨bc_ BK241 0, bc_ BK241 1, bc_ BK241 2⟩ (fun hHeld => ?_)
    clear hK K
    refine nm_ 18 ?_
    refine pu_ 5 19 (bs 41 63) HT_ ?_
    refine pu_ 6 20 (bs 41 127) HT_ ?_
    refine pu_ 7 21 (bs 41 255) HT_ ?_
    refine pu_ 9 23 (bs 41 767) HT_ ?_
    refine pu_ 10 24 (bs 41 1791) HT_ ?_
    refine tk_ 8 22 (bs 41 2047) HT_ HW_ hHeld ?_
    refine on_ 11 (some 25) (bs 41 4095) HT_ (fun K hK => ?_)
    refine goes_ Try.func99 (by kernel_rfl) rfl #[.int .i64 ((rd_T47 l1 x9_1).f1), .int .i64 0, .int .i64 (wrap64 (a0 - 1))] (by rfl) rfl rfl tm_ ?_
    with_reducible refine (impl_in.calls ((rd_T47 l1 x9_1).f1) 0 (wrap64 (a0 - 1)) true _ A8.out).mono ?_
    rintro e w' ⟨rfl, ⟨nd, rfl⟩⟩
    refine ⟨_, rfl, ?_⟩
    refine hK.out _ _ ⟨bc_ BK241 0, bc_ BK241 1, bc_ BK241 2⟩ (fun hHeld => ?_)
    clear hK K
    refine nm_ 25 ?_
    refine pu_ 12 26 (bs 41 8191) HT_ ?_
    refine pu_ 13 27 (bs 41 16383) HT_ ?_
    refine pu_ 14 28 (bs 41 32767) HT_ ?_
    refine pu_ 15 29 (bs 41 65535) HT_ ?_
    refine pu_ 17 31 (bs 41 196607) HT_ ?_
    refine tk_ 16 30 (bs 41 262143) HT_ HW_ hHeld ?_
    refine tk_ 18 32 (bs 41 524287) HT_ HW_ hHeld ?_
    refine pu_ 19 33 (bs 41 1048575) HT_ ?_
    refine pu_ 20 34 (bs 41 2097151) HT_ ?_
    refine pu_ 21 35 (bs 41 4194303) HT_ ?_
    refine pn_ 22 36 (bs 41 8388607) HT_ ?_
    refine pn_ 23 37 (bs 41 16777215) HT_ ?_
    refine pn_ 24 38 (bs 41 33554431) HT_ ?_
    refine pn_ 25 39 (bs 41 67108863) HT_ ?_
    refine pu_ 26 40 (bs 41 134217727) HT_ ?_
    refine pu_ 27 41 (bs 41 268435455) HT_ ?_
    refine pn_ 28 42 (bs 41 536870911) HT_ ?_
    refine pn_ 29 43 (bs 41 1073741823) HT_ ?_
    refine pn_ 30 44 (bs 41 2147483647) HT_ ?_
    refine pn_ 31 45 (bs 41 4294967295) HT_ ?_
    refine pn_ 32 46 (bs 41 8589934591) HT_ ?_
    refine pn_ 33 47 (bs 41 17179869183) HT_ ?_
    refine pn_ 34 48 (bs 41 34359738367) HT_ ?_
    refine pn_ 35 49 (bs 41 68719476735) HT_ ?_
    refine pn_ 36 50 (bs 41 137438953471) HT_ ?_
    refine pn_ 37 51 (bs 41 274877906943) HT_ ?_
    refine pn_ 38 52 (bs 41 549755813887) HT_ ?_
    refine pn_ 39 53 (bs 41 1099511627775) HT_ ?_
    refine pu_ 40 54 (bs 41 2199023255551) HT_ ?_
    refine done_ (done_of HT_.out (by kernel_rfl)) ?_
    try go_wp2
    go_ret
    exact ⟨rt_, hB HB⟩
   rw [if_neg c10] at H
   have c10b0 : decide (((rd_T47 l1 x9_1).f1) ≤ ((rd_T47 l1 x9_1).f0)) = false := decide_eq_false c10
   clear c10
   replace H := Option.bind_eq_some_iff.mp H
   obtain ⟨t244, A150, H⟩ := H
   replace H : (if t244 = true then (if x9_1 > 0 then (if 0 ≤ (wrap64 (x9_1 - 1)) then (if (wrap64 (x9_1 - 1)) < (l1.length : Int) then ((impl_byEnds.f ((rd_T47 l1 (wrap64 (x9_1 - 1))).f0) ((rd_T47 l1 (wrap64 (x9_1 - 1))).f1) ((rd_T47 l1 (wrap64 (x9_1 - 1))).f2) ((rd_T47 l1 x9_1).f0) ((rd_T47 l1 x9_1).f1) ((rd_T47 l1 x9_1).f2)).bind fun t246 => (if t246 ≥ 0 then (some false) else (impl_GoodEdges.l0 k1 a0 l1 l1 (l1.length : Int) (wrap64 (x9_1 + 1))))) else (none)) else (none)) else (impl_GoodEdges.l0 k1 a0 l1 l1 (l1.length : Int) (wrap64 (x9_1 + 1)))) else (some false)) = some r := H
   have A15 := Aside0.mk A150
   clear A150
   by_cases c16 : t244 = true
   rotate_left
   ·replace c16 := Bool.eq_false_iff.mpr c16
    subst c16
    rw [if_neg (show ¬ (false = true) by decide)] at H
    obtain rfl := Option.some.inj H
    have p240 : 0 ≤ (x9_1 : Int) := od_
    have q240 : x9_1 < (l1.length : Int) := od_
    obtain ⟨ad240, e240, hx240_0, hx240_1, hx240_2⟩ := at_T47 HR1.out x9_1 p240 q240
    cases e240
    replace hx240_0 := hc_ HB hx240_0
    replace hx240_1 := hc_ HB hx240_1
    replace hx240_2 := hc_ HB hx240_2
    replace p240 := eq_true p240
    replace q240 := eq_true q240
    try go_wp2_with (first | ((with_reducible refine gate_dst (N := 6) rfl ?_); (try (refine gate_guard (by rfl) ?_; dsimp only)); refine bx_ev 6 #[.int .i64 0, .int .i64 0, .int .i64 0] 47 ?_; intro gb241 hg w37 hbox hb; have BK241 := Aside0.mk (hbox); have GW241 := gw_ hg HB; have GE241 := gw_ hg HB; replace HB := bst_ HB hb; clear hb hbox hg; obtain ⟨hcz38_0, hcz38_1, hcz38_2⟩ := bcs3_ BK241; obtain ⟨hfz38_0, hfz38_1, hfz38_2⟩ := bz3_ BK241))
    have n0_ : Aside0 ((((w37.setCell ⟨gb241, 0, none⟩ (.int .i64 ((rd_T47 l1 x9_1).f0))).setCell ⟨gb241, 1, none⟩ (.int .i64 ((rd_T47 l1 x9_1).f1))).setCell ⟨gb241, 2, none⟩ (.int .i64 ((rd_T47 l1 x9_1).f2))).heap[gb241]? = some (.cells #[.int .i64 ((rd_T47 l1 x9_1).f0), .int .i64 ((rd_T47 l1 x9_1).f1), .int .i64 ((rd_T47 l1 x9_1).f2)] 47 (0, 0))) := ⟨bw0_ BK241⟩
    have n1_ : Aside0 (Below w.heap.size w (((w37.setCell ⟨gb241, 0, none⟩ (.int .i64 ((rd_T47 l1 x9_1).f0))).setCell ⟨gb241, 1, none⟩ (.int .i64 ((rd_T47 l1 x9_1).f1))).setCell ⟨gb241, 2, none⟩ (.int .i64 ((rd_T47 l1 x9_1).f2)))) := ⟨hB HB⟩
    (try clear BK241)
    (try clear HB)
    generalize (((w37.setCell ⟨gb241, 0, none⟩ (.int .i64 ((rd_T47 l1 x9_1).f0))).setCell ⟨gb241, 1, none⟩ (.int .i64 ((rd_T47 l1 x9_1).f1))).setCell ⟨gb241, 2, none⟩ (.int .i64 ((rd_T47 l1 x9_1).f2))) = w39 at n0_ n1_ ⊢
    have BK241 := n0_
    have HB := n1_
    clear n0_ n1_
    replace BK241 := bd_ BK241
    replace HB := Aside0.mk (below_drew1 HB.out)
    refine start_ (n := 41) (S := fun w' => w'.cell? ⟨gb241, 0, none⟩ = some (.int .i64 ((rd_T47 l1 x9_1).f0)) ∧ w'.cell? ⟨gb241, 1, none⟩ = some (.int .i64 ((rd_T47 l1 x9_1).f1)) ∧ w'.cell? ⟨gb241, 2, none⟩ = some (.int .i64 ((rd_T47 l1 x9_1).f2))) (ds := []) (bs 41 0) (by kernel_rfl) rfl rfl ⟨bc_ BK241 0, bc_ BK241 1, bc_ BK241 2⟩ (fun hHeld => ?_); refine with_tabW impl_GoodEdges.tab4 impl_GoodEdges.bits4 (fun HT_ HW_ => ?_)
    generalize w39.drew = w40 at BK241 HB hHeld ⊢
    refine pu_ 0 14 (bs 41 1) HT_ ?_
    refine pu_ 2 16 (bs 41 5) HT_ ?_
    refine pu_ 3 17 (bs 41 13) HT_ ?_
    refine tk_ 1 15 (bs 41 15) HT_ HW_ hHeld ?_
    refine on_ 4 (some 18) (bs 41 31) HT_ (fun K hK => ?_)
    refine goes_ Try.func99 (by kernel_rfl) rfl #[.int .i64 ((rd_T47 l1 x9_1).f0), .int .i64 0, .int .i64 (wrap64 (a0 - 1))] (by rfl) rfl rfl tm_ ?_
    with_reducible refine (impl_in.calls ((rd_T47 l1 x9_1).f0) 0 (wrap64 (a0 - 1)) true _ A6.out).mono ?_
    rintro e w' ⟨rfl, ⟨nd, rfl⟩⟩
    refine ⟨_, rfl, ?_⟩
    refine hK.out _ _ ⟨bc_ BK241 0, bc_ BK241 1, bc_ BK241 2⟩ (fun hHeld => ?_)
    clear hK K
    refine nm_ 18 ?_
    refine pu_ 5 19 (bs 41 63) HT_ ?_
    refine pu_ 6 20 (bs 41 127) HT_ ?_
    refine pu_ 7 21 (bs 41 255) HT_ ?_
    refine pu_ 9 23 (bs 41 767) HT_ ?_
    refine pu_ 10 24 (bs 41 1791) HT_ ?_
    refine tk_ 8 22 (bs 41 2047) HT_ HW_ hHeld ?_
    refine on_ 11 (some 25) (bs 41 4095) HT_ (fun K hK => ?_)
    refine goes_ Try.func99 (by kernel_rfl) rfl #[.int .i64 ((rd_T47 l1 x9_1).f1), .int .i64 0, .int .i64 (wrap64 (a0 - 1))] (by rfl) rfl rfl tm_ ?_
    with_reducible refine (impl_in.calls ((rd_T47 l1 x9_1).f1) 0 (wrap64 (a0 - 1)) true _ A8.out).mono ?_
    rintro e w' ⟨rfl, ⟨nd, rfl⟩⟩
    refine ⟨_, rfl, ?_⟩
    refine hK.out _ _ ⟨bc_ BK241 0, bc_ BK241 1, bc_ BK241 2⟩ (fun hHeld => ?_)
    clear hK K
    refine nm_ 25 ?_
    refine pu_ 12 26 (bs 41 8191) HT_ ?_
    refine pu_ 13 27 (bs 41 16383) HT_ ?_
    refine pu_ 14 28 (bs 41 32767) HT_ ?_
    refine pu_ 15 29 (bs 41 65535) HT_ ?_
    refine pu_ 17 31 (bs 41 196607) HT_ ?_
    refine tk_ 16 30 (bs 41 262143) HT_ HW_ hHeld ?_
    refine tk_ 18 32 (bs 41 524287) HT_ HW_ hHeld ?_
    refine pu_ 19 33 (bs 41 1048575) HT_ ?_
    refine pu_ 20 34 (bs 41 2097151) HT_ ?_
    refine pu_ 21 35 (bs 41 4194303) HT_ ?_
    refine pu_ 22 36 (bs 41 8388607) HT_ ?_
    refine tk_ 23 37 (bs 41 16777215) HT_ HW_ hHeld ?_
    refine on_ 24 (some 38) (bs 41 33554431) HT_ (fun K hK => ?_)
    refine goes_ Try.func99 (by kernel_rfl) rfl #[.int .i64 ((rd_T47 l1 x9_1).f2), .int .i64 1, .int .i64 100] (by rfl) rfl rfl tm_ ?_
    with_reducible refine (impl_in.calls ((rd_T47 l1 x9_1).f2) 1 100 false _ A15.out).mono ?_
    rintro e w' ⟨rfl, ⟨nd, rfl⟩⟩
    refine ⟨_, rfl, ?_⟩
    refine hK.out _ _ ⟨bc_ BK241 0, bc_ BK241 1, bc_ BK241 2⟩ (fun hHeld => ?_)
    clear hK K
    refine nm_ 38 ?_
    refine pu_ 25 39 (bs 41 67108863) HT_ ?_
    refine pu_ 26 40 (bs 41 134217727) HT_ ?_
    refine pu_ 27 41 (bs 41 268435455) HT_ ?_
    refine pn_ 28 42 (bs 41 536870911) HT_ ?_
    refine pn_ 29 43 (bs 41 1073741823) HT_ ?_
    refine pn_ 30 44 (bs 41 2147483647) HT_ ?_
    refine pn_ 31 45 (bs 41 4294967295) HT_ ?_
    refine pn_ 32 46 (bs 41 8589934591) HT_ ?_
    refine pn_ 33 47 (bs 41 17179869183) HT_ ?_
    refine pn_ 34 48 (bs 41 34359738367) HT_ ?_
    refine pn_ 35 49 (bs 41 68719476735) HT_ ?_
    refine pn_ 36 50 (bs 41 137438953471) HT_ ?_
    refine pn_ 37 51 (bs 41 274877906943) HT_ ?_
    refine pn_ 38 52 (bs 41 549755813887) HT_ ?_
    refine pn_ 39 53 (bs 41 1099511627775) HT_ ?_
    refine pu_ 40 54 (bs 41 2199023255551) HT_ ?_
    refine done_ (done_of HT_.out (by kernel_rfl)) ?_
    try go_wp2
    go_ret
    exact ⟨rt_, hB HB⟩
   subst c16
   rw [if_pos rfl] at H
   by_cases c17 : x9_1 > 0
   rotate_left
   ·rw [if_neg c17] at H
    have c17b0 : decide (0 < x9_1) = false := decide_eq_false c17
    clear c17
    have H' := Aside0.mk H
    clear H
    have p240 : 0 ≤ (x9_1 : Int) := od_
    have q240 : x9_1 < (l1.length : Int) := od_
    obtain ⟨ad240, e240, hx240_0, hx240_1, hx240_2⟩ := at_T47 HR1.out x9_1 p240 q240
    cases e240
    replace hx240_0 := hc_ HB hx240_0
    replace hx240_1 := hc_ HB hx240_1
    replace hx240_2 := hc_ HB hx240_2
    replace p240 := eq_true p240
    replace q240 := eq_true q240
    try go_wp2_with (first | ((with_reducible refine gate_dst (N := 6) rfl ?_); (try (refine gate_guard (by rfl) ?_; dsimp only)); refine bx_ev 6 #[.int .i64 0, .int .i64 0, .int .i64 0] 47 ?_; intro gb241 hg w33 hbox hb; have BK241 := Aside0.mk (hbox); have GW241 := gw_ hg HB; have GE241 := gw_ hg HB; replace HB := bst_ HB hb; clear hb hbox hg; obtain ⟨hcz34_0, hcz34_1, hcz34_2⟩ := bcs3_ BK241; obtain ⟨hfz34_0, hfz34_1, hfz34_2⟩ := bz3_ BK241))
    have n0_ : Aside0 ((((w33.setCell ⟨gb241, 0, none⟩ (.int .i64 ((rd_T47 l1 x9_1).f0))).setCell ⟨gb241, 1, none⟩ (.int .i64 ((rd_T47 l1 x9_1).f1))).setCell ⟨gb241, 2, none⟩ (.int .i64 ((rd_T47 l1 x9_1).f2))).heap[gb241]? = some (.cells #[.int .i64 ((rd_T47 l1 x9_1).f0), .int .i64 ((rd_T47 l1 x9_1).f1), .int .i64 ((rd_T47 l1 x9_1).f2)] 47 (0, 0))) := ⟨bw0_ BK241⟩
    have n1_ : Aside0 (Below w.heap.size w (((w33.setCell ⟨gb241, 0, none⟩ (.int .i64 ((rd_T47 l1 x9_1).f0))).setCell ⟨gb241, 1, none⟩ (.int .i64 ((rd_T47 l1 x9_1).f1))).setCell ⟨gb241, 2, none⟩ (.int .i64 ((rd_T47 l1 x9_1).f2)))) := ⟨hB HB⟩
    (try clear BK241)
    (try clear HB)
    generalize (((w33.setCell ⟨gb241, 0, none⟩ (.int .i64 ((rd_T47 l1 x9_1).f0))).setCell ⟨gb241, 1, none⟩ (.int .i64 ((rd_T47 l1 x9_1).f1))).setCell ⟨gb241, 2, none⟩ (.int .i64 ((rd_T47 l1 x9_1).f2))) = w35 at n0_ n1_ ⊢
    have BK241 := n0_
    have HB := n1_
    clear n0_ n1_
    replace BK241 := bd_ BK241
    replace HB := Aside0.mk (below_drew1 HB.out)
    refine start_ (n := 41) (S := fun w' => w'.cell? ⟨gb241, 0, none⟩ = some (.int .i64 ((rd_T47 l1 x9_1).f0)) ∧ w'.cell? ⟨gb241, 1, none⟩ = some (.int .i64 ((rd_T47 l1 x9_1).f1)) ∧ w'.cell? ⟨gb241, 2, none⟩ = some (.int .i64 ((rd_T47 l1 x9_1).f2))) (ds := []) (bs 41 0) (by kernel_rfl) rfl rfl ⟨bc_ BK241 0, bc_ BK241 1, bc_ BK241 2⟩ (fun hHeld => ?_); refine with_tabW impl_GoodEdges.tab4 impl_GoodEdges.bits4 (fun HT_ HW_ => ?_)
    generalize w35.drew = w36 at BK241 HB hHeld ⊢
    refine pu_ 0 14 (bs 41 1) HT_ ?_
    refine pu_ 2 16 (bs 41 5) HT_ ?_
    refine pu_ 3 17 (bs 41 13) HT_ ?_
    refine tk_ 1 15 (bs 41 15) HT_ HW_ hHeld ?_
    refine on_ 4 (some 18) (bs 41 31) HT_ (fun K hK => ?_)
    refine goes_ Try.func99 (by kernel_rfl) rfl #[.int .i64 ((rd_T47 l1 x9_1).f0), .int .i64 0, .int .i64 (wrap64 (a0 - 1))] (by rfl) rfl rfl tm_ ?_
    with_reducible refine (impl_in.calls ((rd_T47 l1 x9_1).f0) 0 (wrap64 (a0 - 1)) true _ A6.out).mono ?_
    rintro e w' ⟨rfl, ⟨nd, rfl⟩⟩
    refine ⟨_, rfl, ?_⟩
    refine hK.out _ _ ⟨bc_ BK241 0, bc_ BK241 1, bc_ BK241 2⟩ (fun hHeld => ?_)
    clear hK K
    refine nm_ 18 ?_
    refine pu_ 5 19 (bs 41 63) HT_ ?_
    refine pu_ 6 20 (bs 41 127) HT_ ?_
    refine pu_ 7 21 (bs 41 255) HT_ ?_
    refine pu_ 9 23 (bs 41 767) HT_ ?_
    refine pu_ 10 24 (bs 41 1791) HT_ ?_
    refine tk_ 8 22 (bs 41 2047) HT_ HW_ hHeld ?_
    refine on_ 11 (some 25) (bs 41 4095) HT_ (fun K hK => ?_)
    refine goes_ Try.func99 (by kernel_rfl) rfl #[.int .i64 ((rd_T47 l1 x9_1).f1), .int .i64 0, .int .i64 (wrap64 (a0 - 1))] (by rfl) rfl rfl tm_ ?_
    with_reducible refine (impl_in.calls ((rd_T47 l1 x9_1).f1) 0 (wrap64 (a0 - 1)) true _ A8.out).mono ?_
    rintro e w' ⟨rfl, ⟨nd, rfl⟩⟩
    refine ⟨_, rfl, ?_⟩
    refine hK.out _ _ ⟨bc_ BK241 0, bc_ BK241 1, bc_ BK241 2⟩ (fun hHeld => ?_)
    clear hK K
    refine nm_ 25 ?_
    refine pu_ 12 26 (bs 41 8191) HT_ ?_
    refine pu_ 13 27 (bs 41 16383) HT_ ?_
    refine pu_ 14 28 (bs 41 32767) HT_ ?_
    refine pu_ 15 29 (bs 41 65535) HT_ ?_
    refine pu_ 17 31 (bs 41 196607) HT_ ?_
    refine tk_ 16 30 (bs 41 262143) HT_ HW_ hHeld ?_
    refine tk_ 18 32 (bs 41 524287) HT_ HW_ hHeld ?_
    refine pu_ 19 33 (bs 41 1048575) HT_ ?_
    refine pu_ 20 34 (bs 41 2097151) HT_ ?_
    refine pu_ 21 35 (bs 41 4194303) HT_ ?_
    refine pu_ 22 36 (bs 41 8388607) HT_ ?_
    refine tk_ 23 37 (bs 41 16777215) HT_ HW_ hHeld ?_
    refine on_ 24 (some 38) (bs 41 33554431) HT_ (fun K hK => ?_)
    refine goes_ Try.func99 (by kernel_rfl) rfl #[.int .i64 ((rd_T47 l1 x9_1).f2), .int .i64 1, .int .i64 100] (by rfl) rfl rfl tm_ ?_
    with_reducible refine (impl_in.calls ((rd_T47 l1 x9_1).f2) 1 100 true _ A15.out).mono ?_
    rintro e w' ⟨rfl, ⟨nd, rfl⟩⟩
    refine ⟨_, rfl, ?_⟩
    refine hK.out _ _ ⟨bc_ BK241 0, bc_ BK241 1, bc_ BK241 2⟩ (fun hHeld => ?_)
    clear hK K
    refine nm_ 38 ?_
    refine pu_ 25 39 (bs 41 67108863) HT_ ?_
    refine pu_ 26 40 (bs 41 134217727) HT_ ?_
    refine pu_ 27 41 (bs 41 268435455) HT_ ?_
    refine pu_ 28 42 (bs 41 536870911) HT_ ?_
    refine pu_ 29 43 (bs 41 1073741823) HT_ ?_
    refine pu_ 30 44 (bs 41 2147483647) HT_ ?_
    refine pn_ 31 45 (bs 41 4294967295) HT_ ?_
    refine pn_ 32 46 (bs 41 8589934591) HT_ ?_
    refine pn_ 33 47 (bs 41 17179869183) HT_ ?_
    refine pn_ 34 48 (bs 41 34359738367) HT_ ?_
    refine pn_ 35 49 (bs 41 68719476735) HT_ ?_
    refine pn_ 36 50 (bs 41 137438953471) HT_ ?_
    refine pn_ 37 51 (bs 41 274877906943) HT_ ?_
    refine pn_ 38 52 (bs 41 549755813887) HT_ ?_
    refine pu_ 39 53 (bs 41 1099511627775) HT_ ?_
    refine pu_ 40 54 (bs 41 2199023255551) HT_ ?_
    refine done_ (done_of HT_.out (by kernel_rfl)) ?_
    try go_wp2
    go_roundg k1
    case measure => have := HK1.out; omega
    case rel => exact ⟨(wrap64 (x9_1 + 1)), (by first | rfl | (simp; done) | (simp [*]; done)), H', ⟨by have := HK1.out; omega⟩, ⟨hB HB⟩⟩
   rw [if_pos c17] at H
   have c17b0 : decide (0 < x9_1) = true := decide_eq_true c17
   clear c17
   obtain ⟨ji18, hji18⟩ : ∃ j_ : Int, (wrap64 (x9_1 - 1)) = j_ := ⟨_, rfl⟩
   replace H : (if 0 ≤ (ji18) then (if (ji18) < (l1.length : Int) then ((impl_byEnds.f ((rd_T47 l1 (ji18)).f0) ((rd_T47 l1 (ji18)).f1) ((rd_T47 l1 (ji18)).f2) ((rd_T47 l1 x9_1).f0) ((rd_T47 l1 x9_1).f1) ((rd_T47 l1 x9_1).f2)).bind fun t246 => (if t246 ≥ 0 then (some false) else (impl_GoodEdges.l0 k1 a0 l1 l1 (l1.length : Int) (wrap64 (x9_1 + 1))))) else (none)) else (none)) = some r := by first | (rw [hji18] at H; exact H) | (simp only [hji18] at H ⊢; exact H)
   (try rw [hji18] at A6)
   (try rw [hji18] at A8)
   (try rw [hji18] at A15)
   have hji18w : (IntKind.i64.wrap (x9_1 - 1)) = ji18 := (i64_w _).trans hji18
   by_cases c19 : 0 ≤ (ji18)
   rotate_left
   ·rw [if_neg c19] at H
    exact absurd H (by simp)
   rw [if_pos c19] at H
   have c19b0 : decide (0 ≤ (ji18)) = true := decide_eq_true c19
   clear c19
   by_cases c20 : (ji18) < (l1.length : Int)
   rotate_left
   ·rw [if_neg c20] at H
    exact absurd H (by simp)
   rw [if_pos c20] at H
   have c20b0 : decide ((ji18) < (l1.length : Int)) = true := decide_eq_true c20
   clear c20
   replace H := Option.bind_eq_some_iff.mp H
   obtain ⟨t246, A210, H⟩ := H
   replace H : (if t246 ≥ 0 then (some false) else (impl_GoodEdges.l0 k1 a0 l1 l1 (l1.length : Int) (wrap64 (x9_1 + 1)))) = some r := H
   have A21 := Aside0.mk A210
   clear A210
   by_cases c22 : t246 ≥ 0
   rotate_left
   ·rw [if_neg c22] at H
    have c22b0 : decide (0 ≤ t246) = false := decide_eq_false c22
    clear c22
    have H' := Aside0.mk H
    clear H
    have p240 : 0 ≤ (x9_1 : Int) := od_
    have q240 : x9_1 < (l1.length : Int) := od_
    obtain ⟨ad240, e240, hx240_0, hx240_1, hx240_2⟩ := at_T47 HR1.out x9_1 p240 q240
    cases e240
    replace hx240_0 := hc_ HB hx240_0
    replace hx240_1 := hc_ HB hx240_1
    replace hx240_2 := hc_ HB hx240_2
    replace p240 := eq_true p240
    replace q240 := eq_true q240
    try go_wp2_with (first | ((with_reducible refine gate_dst (N := 6) rfl ?_); (try (refine gate_guard (by rfl) ?_; dsimp only)); refine bx_ev 6 #[.int .i64 0, .int .i64 0, .int .i64 0] 47 ?_; intro gb241 hg w28 hbox hb; have BK241 := Aside0.mk (hbox); have GW241 := gw_ hg HB; have GE241 := gw_ hg HB; replace HB := bst_ HB hb; clear hb hbox hg; obtain ⟨hcz29_0, hcz29_1, hcz29_2⟩ := bcs3_ BK241; obtain ⟨hfz29_0, hfz29_1, hfz29_2⟩ := bz3_ BK241))
    have n0_ : Aside0 ((((w28.setCell ⟨gb241, 0, none⟩ (.int .i64 ((rd_T47 l1 x9_1).f0))).setCell ⟨gb241, 1, none⟩ (.int .i64 ((rd_T47 l1 x9_1).f1))).setCell ⟨gb241, 2, none⟩ (.int .i64 ((rd_T47 l1 x9_1).f2))).heap[gb241]? = some (.cells #[.int .i64 ((rd_T47 l1 x9_1).f0), .int .i64 ((rd_T47 l1 x9_1).f1), .int .i64 ((rd_T47 l1 x9_1).f2)] 47 (0, 0))) := ⟨bw0_ BK241⟩
    have n1_ : Aside0 (Below w.heap.size w (((w28.setCell ⟨gb241, 0, none⟩ (.int .i64 ((rd_T47 l1 x9_1).f0))).setCell ⟨gb241, 1, none⟩ (.int .i64 ((rd_T47 l1 x9_1).f1))).setCell ⟨gb241, 2, none⟩ (.int .i64 ((rd_T47 l1 x9_1).f2)))) := ⟨hB HB⟩
    (try clear BK241)
    (try clear HB)
    generalize (((w28.setCell ⟨gb241, 0, none⟩ (.int .i64 ((rd_T47 l1 x9_1).f0))).setCell ⟨gb241, 1, none⟩ (.int .i64 ((rd_T47 l1 x9_1).f1))).setCell ⟨gb241, 2, none⟩ (.int .i64 ((rd_T47 l1 x9_1).f2))) = w30 at n0_ n1_ ⊢
    have BK241 := n0_
    have HB := n1_
    clear n0_ n1_
    replace BK241 := bd_ BK241
    replace HB := Aside0.mk (below_drew1 HB.out)
    have p245 : 0 ≤ ((ji18) : Int) := od_
    have q245 : (ji18) < (l1.length : Int) := od_
    obtain ⟨ad245, e245, hx245_0, hx245_1, hx245_2⟩ := at_T47 HR1.out (ji18) p245 q245
    have hw245_2 := hx245_2
    have hw245_1 := hx245_1
    have hw245_0 := hx245_0
    obtain rfl : ad240 = ad245 := (by injection e245)
    replace hx245_0 := hc_ HB hx245_0
    replace hx245_1 := hc_ HB hx245_1
    replace hx245_2 := hc_ HB hx245_2
    replace p245 := eq_true p245
    replace q245 := eq_true q245
    refine start_ (n := 41) (S := fun w' => w'.cell? ⟨gb241, 0, none⟩ = some (.int .i64 ((rd_T47 l1 x9_1).f0)) ∧ w'.cell? ⟨gb241, 1, none⟩ = some (.int .i64 ((rd_T47 l1 x9_1).f1)) ∧ w'.cell? ⟨gb241, 2, none⟩ = some (.int .i64 ((rd_T47 l1 x9_1).f2)) ∧ w'.cell? (ad240.add (((ji18)).toNat * 3)) = some (.int .i64 ((rd_T47 l1 (ji18)).f0)) ∧ w'.cell? ⟨(ad240.add (((ji18)).toNat * 3)).block, (ad240.add (((ji18)).toNat * 3)).off + 1, none⟩ = some (.int .i64 ((rd_T47 l1 (ji18)).f1)) ∧ w'.cell? ⟨(ad240.add (((ji18)).toNat * 3)).block, (ad240.add (((ji18)).toNat * 3)).off + 2, none⟩ = some (.int .i64 ((rd_T47 l1 (ji18)).f2))) (ds := []) (bs 41 0) (by kernel_rfl) rfl rfl ⟨bc_ BK241 0, bc_ BK241 1, bc_ BK241 2, ((HB.out.cell (World.block_lt_of_cell? w _ hw245_0)).trans hw245_0), ((HB.out.cell (World.block_lt_of_cell? w _ hw245_1)).trans hw245_1), ((HB.out.cell (World.block_lt_of_cell? w _ hw245_2)).trans hw245_2)⟩ (fun hHeld => ?_); refine with_tabW impl_GoodEdges.tab4 impl_GoodEdges.bits4 (fun HT_ HW_ => ?_)
    generalize w30.drew = w31 at BK241 HB hx245_0 hx245_1 hx245_2 hHeld ⊢
    refine pu_ 0 14 (bs 41 1) HT_ ?_
    refine pu_ 2 16 (bs 41 5) HT_ ?_
    refine pu_ 3 17 (bs 41 13) HT_ ?_
    refine tk_ 1 15 (bs 41 15) HT_ HW_ hHeld ?_
    refine on_ 4 (some 18) (bs 41 31) HT_ (fun K hK => ?_)
    refine goes_ Try.func99 (by kernel_rfl) rfl #[.int .i64 ((rd_T47 l1 x9_1).f0), .int .i64 0, .int .i64 (wrap64 (a0 - 1))] (by rfl) rfl rfl tm_ ?_
    with_reducible refine (impl_in.calls ((rd_T47 l1 x9_1).f0) 0 (wrap64 (a0 - 1)) true _ A6.out).mono ?_
    rintro e w' ⟨rfl, ⟨nd, rfl⟩⟩
    refine ⟨_, rfl, ?_⟩
    refine hK.out _ _ ⟨bc_ BK241 0, bc_ BK241 1, bc_ BK241 2, ((HB.out.cell (World.block_lt_of_cell? w _ hw245_0)).trans hw245_0), ((HB.out.cell (World.block_lt_of_cell? w _ hw245_1)).trans hw245_1), ((HB.out.cell (World.block_lt_of_cell? w _ hw245_2)).trans hw245_2)⟩ (fun hHeld => ?_)
    clear hK K
    refine nm_ 18 ?_
    refine pu_ 5 19 (bs 41 63) HT_ ?_
    refine pu_ 6 20 (bs 41 127) HT_ ?_
    refine pu_ 7 21 (bs 41 255) HT_ ?_
    refine pu_ 9 23 (bs 41 767) HT_ ?_
    refine pu_ 10 24 (bs 41 1791) HT_ ?_
    refine tk_ 8 22 (bs 41 2047) HT_ HW_ hHeld ?_
    refine on_ 11 (some 25) (bs 41 4095) HT_ (fun K hK => ?_)
    refine goes_ Try.func99 (by kernel_rfl) rfl #[.int .i64 ((rd_T47 l1 x9_1).f1), .int .i64 0, .int .i64 (wrap64 (a0 - 1))] (by rfl) rfl rfl tm_ ?_
    with_reducible refine (impl_in.calls ((rd_T47 l1 x9_1).f1) 0 (wrap64 (a0 - 1)) true _ A8.out).mono ?_
    rintro e w' ⟨rfl, ⟨nd, rfl⟩⟩
    refine ⟨_, rfl, ?_⟩
    refine hK.out _ _ ⟨bc_ BK241 0, bc_ BK241 1, bc_ BK241 2, ((HB.out.cell (World.block_lt_of_cell? w _ hw245_0)).trans hw245_0), ((HB.out.cell (World.block_lt_of_cell? w _ hw245_1)).trans hw245_1), ((HB.out.cell (World.block_lt_of_cell? w _ hw245_2)).trans hw245_2)⟩ (fun hHeld => ?_)
    clear hK K
    refine nm_ 25 ?_
    refine pu_ 12 26 (bs 41 8191) HT_ ?_
    refine pu_ 13 27 (bs 41 16383) HT_ ?_
    refine pu_ 14 28 (bs 41 32767) HT_ ?_
    refine pu_ 15 29 (bs 41 65535) HT_ ?_
    refine pu_ 17 31 (bs 41 196607) HT_ ?_
    refine tk_ 16 30 (bs 41 262143) HT_ HW_ hHeld ?_
    refine tk_ 18 32 (bs 41 524287) HT_ HW_ hHeld ?_
    refine pu_ 19 33 (bs 41 1048575) HT_ ?_
    refine pu_ 20 34 (bs 41 2097151) HT_ ?_
    refine pu_ 21 35 (bs 41 4194303) HT_ ?_
    refine pu_ 22 36 (bs 41 8388607) HT_ ?_
    refine tk_ 23 37 (bs 41 16777215) HT_ HW_ hHeld ?_
    refine on_ 24 (some 38) (bs 41 33554431) HT_ (fun K hK => ?_)
    refine goes_ Try.func99 (by kernel_rfl) rfl #[.int .i64 ((rd_T47 l1 x9_1).f2), .int .i64 1, .int .i64 100] (by rfl) rfl rfl tm_ ?_
    with_reducible refine (impl_in.calls ((rd_T47 l1 x9_1).f2) 1 100 true _ A15.out).mono ?_
    rintro e w' ⟨rfl, ⟨nd, rfl⟩⟩
    refine ⟨_, rfl, ?_⟩
    refine hK.out _ _ ⟨bc_ BK241 0, bc_ BK241 1, bc_ BK241 2, ((HB.out.cell (World.block_lt_of_cell? w _ hw245_0)).trans hw245_0), ((HB.out.cell (World.block_lt_of_cell? w _ hw245_1)).trans hw245_1), ((HB.out.cell (World.block_lt_of_cell? w _ hw245_2)).trans hw245_2)⟩ (fun hHeld => ?_)
    clear hK K
    refine nm_ 38 ?_
    refine pu_ 25 39 (bs 41 67108863) HT_ ?_
    refine pu_ 26 40 (bs 41 134217727) HT_ ?_
    refine pu_ 27 41 (bs 41 268435455) HT_ ?_
    refine pu_ 28 42 (bs 41 536870911) HT_ ?_
    refine pu_ 29 43 (bs 41 1073741823) HT_ ?_
    refine pu_ 30 44 (bs 41 2147483647) HT_ ?_
    refine pu_ 31 45 (bs 41 4294967295) HT_ ?_
    refine pu_ 32 46 (bs 41 8589934591) HT_ ?_
    refine pu_ 33 47 (bs 41 17179869183) HT_ ?_
    refine pu_ 34 48 (bs 41 34359738367) HT_ ?_
    refine tk_ 35 49 (bs 41 68719476735) HT_ HW_ hHeld ?_
    refine tk_ 36 50 (bs 41 137438953471) HT_ HW_ hHeld ?_
    refine on_ 37 (some 51) (bs 41 274877906943) HT_ (fun K hK => ?_)
    refine goes_ Try.func110 (by kernel_rfl) rfl #[.agg #[.int .i64 ((rd_T47 l1 (ji18)).f0), .int .i64 ((rd_T47 l1 (ji18)).f1), .int .i64 ((rd_T47 l1 (ji18)).f2)], .agg #[.int .i64 ((rd_T47 l1 x9_1).f0), .int .i64 ((rd_T47 l1 x9_1).f1), .int .i64 ((rd_T47 l1 x9_1).f2)]] (by rfl) rfl rfl (by (try simp only [List.map_toArray, List.map_cons, List.map_nil]); first | done | (simp only [hji18]; rfl) | rfl | (simp only [List.length_drop, List.length_take]; rfl)) ?_
    with_reducible refine (impl_byEnds.calls ((rd_T47 l1 (ji18)).f0) ((rd_T47 l1 (ji18)).f1) ((rd_T47 l1 (ji18)).f2) ((rd_T47 l1 x9_1).f0) ((rd_T47 l1 x9_1).f1) ((rd_T47 l1 x9_1).f2) t246 _ A21.out).mono ?_
    rintro e w32 ⟨rfl, hb⟩
    refine ⟨_, rfl, ?_⟩
    replace BK241 := bb_ BK241 hb
    replace HB := bst_ HB hb
    clear hb
    refine hK.out _ _ ⟨bc_ BK241 0, bc_ BK241 1, bc_ BK241 2, ((HB.out.cell (World.block_lt_of_cell? w _ hw245_0)).trans hw245_0), ((HB.out.cell (World.block_lt_of_cell? w _ hw245_1)).trans hw245_1), ((HB.out.cell (World.block_lt_of_cell? w _ hw245_2)).trans hw245_2)⟩ (fun hHeld => ?_)
    clear hK K
    refine nm_ 51 ?_
    refine pu_ 38 52 (bs 41 549755813887) HT_ ?_
    refine pu_ 39 53 (bs 41 1099511627775) HT_ ?_
    refine pu_ 40 54 (bs 41 2199023255551) HT_ ?_
    refine done_ (done_of HT_.out (by kernel_rfl)) ?_
    try go_wp2
    go_roundg k1
    case measure => have := HK1.out; omega
    case rel => exact ⟨(wrap64 (x9_1 + 1)), (by first | rfl | (simp; done) | (simp [*]; done)), H', ⟨by have := HK1.out; omega⟩, ⟨hB HB⟩⟩
   rw [if_pos c22] at H
   have c22b0 : decide (0 ≤ t246) = true := decide_eq_true c22
   clear c22
   obtain rfl := Option.some.inj H
   have p240 : 0 ≤ (x9_1 : Int) := od_
   have q240 : x9_1 < (l1.length : Int) := od_
   obtain ⟨ad240, e240, hx240_0, hx240_1, hx240_2⟩ := at_T47 HR1.out x9_1 p240 q240
   cases e240
   replace hx240_0 := hc_ HB hx240_0
   replace hx240_1 := hc_ HB hx240_1
   replace hx240_2 := hc_ HB hx240_2
   replace p240 := eq_true p240
   replace q240 := eq_true q240
   try go_wp2_with (first | ((with_reducible refine gate_dst (N := 6) rfl ?_); (try (refine gate_guard (by rfl) ?_; dsimp only)); refine bx_ev 6 #[.int .i64 0, .int .i64 0, .int .i64 0] 47 ?_; intro gb241 hg w23 hbox hb; have BK241 := Aside0.mk (hbox); have GW241 := gw_ hg HB; have GE241 := gw_ hg HB; replace HB := bst_ HB hb; clear hb hbox hg; obtain ⟨hcz24_0, hcz24_1, hcz24_2⟩ := bcs3_ BK241; obtain ⟨hfz24_0, hfz24_1, hfz24_2⟩ := bz3_ BK241))
   have n0_ : Aside0 ((((w23.setCell ⟨gb241, 0, none⟩ (.int .i64 ((rd_T47 l1 x9_1).f0))).setCell ⟨gb241, 1, none⟩ (.int .i64 ((rd_T47 l1 x9_1).f1))).setCell ⟨gb241, 2, none⟩ (.int .i64 ((rd_T47 l1 x9_1).f2))).heap[gb241]? = some (.cells #[.int .i64 ((rd_T47 l1 x9_1).f0), .int .i64 ((rd_T47 l1 x9_1).f1), .int .i64 ((rd_T47 l1 x9_1).f2)] 47 (0, 0))) := ⟨bw0_ BK241⟩
   have n1_ : Aside0 (Below w.heap.size w (((w23.setCell ⟨gb241, 0, none⟩ (.int .i64 ((rd_T47 l1 x9_1).f0))).setCell ⟨gb241, 1, none⟩ (.int .i64 ((rd_T47 l1 x9_1).f1))).setCell ⟨gb241, 2, none⟩ (.int .i64 ((rd_T47 l1 x9_1).f2)))) := ⟨hB HB⟩
   (try clear BK241)
   (try clear HB)
   generalize (((w23.setCell ⟨gb241, 0, none⟩ (.int .i64 ((rd_T47 l1 x9_1).f0))).setCell ⟨gb241, 1, none⟩ (.int .i64 ((rd_T47 l1 x9_1).f1))).setCell ⟨gb241, 2, none⟩ (.int .i64 ((rd_T47 l1 x9_1).f2))) = w25 at n0_ n1_ ⊢
   have BK241 := n0_
   have HB := n1_
   clear n0_ n1_
   replace BK241 := bd_ BK241
   replace HB := Aside0.mk (below_drew1 HB.out)
   have p245 : 0 ≤ ((ji18) : Int) := od_
   have q245 : (ji18) < (l1.length : Int) := od_
   obtain ⟨ad245, e245, hx245_0, hx245_1, hx245_2⟩ := at_T47 HR1.out (ji18) p245 q245
   have hw245_2 := hx245_2
   have hw245_1 := hx245_1
   have hw245_0 := hx245_0
   obtain rfl : ad240 = ad245 := (by injection e245)
   replace hx245_0 := hc_ HB hx245_0
   replace hx245_1 := hc_ HB hx245_1
   replace hx245_2 := hc_ HB hx245_2
   replace p245 := eq_true p245
   replace q245 := eq_true q245
   refine start_ (n := 41) (S := fun w' => w'.cell? ⟨gb241, 0, none⟩ = some (.int .i64 ((rd_T47 l1 x9_1).f0)) ∧ w'.cell? ⟨gb241, 1, none⟩ = some (.int .i64 ((rd_T47 l1 x9_1).f1)) ∧ w'.cell? ⟨gb241, 2, none⟩ = some (.int .i64 ((rd_T47 l1 x9_1).f2)) ∧ w'.cell? (ad240.add (((ji18)).toNat * 3)) = some (.int .i64 ((rd_T47 l1 (ji18)).f0)) ∧ w'.cell? ⟨(ad240.add (((ji18)).toNat * 3)).block, (ad240.add (((ji18)).toNat * 3)).off + 1, none⟩ = some (.int .i64 ((rd_T47 l1 (ji18)).f1)) ∧ w'.cell? ⟨(ad240.add (((ji18)).toNat * 3)).block, (ad240.add (((ji18)).toNat * 3)).off + 2, none⟩ = some (.int .i64 ((rd_T47 l1 (ji18)).f2))) (ds := []) (bs 41 0) (by kernel_rfl) rfl rfl ⟨bc_ BK241 0, bc_ BK241 1, bc_ BK241 2, ((HB.out.cell (World.block_lt_of_cell? w _ hw245_0)).trans hw245_0), ((HB.out.cell (World.block_lt_of_cell? w _ hw245_1)).trans hw245_1), ((HB.out.cell (World.block_lt_of_cell? w _ hw245_2)).trans hw245_2)⟩ (fun hHeld => ?_); refine with_tabW impl_GoodEdges.tab4 impl_GoodEdges.bits4 (fun HT_ HW_ => ?_)
   generalize w25.drew = w26 at BK241 HB hx245_0 hx245_1 hx245_2 hHeld ⊢
   refine pu_ 0 14 (bs 41 1) HT_ ?_
   refine pu_ 2 16 (bs 41 5) HT_ ?_
   refine pu_ 3 17 (bs 41 13) HT_ ?_
   refine tk_ 1 15 (bs 41 15) HT_ HW_ hHeld ?_
   refine on_ 4 (some 18) (bs 41 31) HT_ (fun K hK => ?_)
   refine goes_ Try.func99 (by kernel_rfl) rfl #[.int .i64 ((rd_T47 l1 x9_1).f0), .int .i64 0, .int .i64 (wrap64 (a0 - 1))] (by rfl) rfl rfl tm_ ?_
   with_reducible refine (impl_in.calls ((rd_T47 l1 x9_1).f0) 0 (wrap64 (a0 - 1)) true _ A6.out).mono ?_
   rintro e w' ⟨rfl, ⟨nd, rfl⟩⟩
   refine ⟨_, rfl, ?_⟩
   refine hK.out _ _ ⟨bc_ BK241 0, bc_ BK241 1, bc_ BK241 2, ((HB.out.cell (World.block_lt_of_cell? w _ hw245_0)).trans hw245_0), ((HB.out.cell (World.block_lt_of_cell? w _ hw245_1)).trans hw245_1), ((HB.out.cell (World.block_lt_of_cell? w _ hw245_2)).trans hw245_2)⟩ (fun hHeld => ?_)
   clear hK K
   refine nm_ 18 ?_
   refine pu_ 5 19 (bs 41 63) HT_ ?_
   refine pu_ 6 20 (bs 41 127) HT_ ?_
   refine pu_ 7 21 (bs 41 255) HT_ ?_
   refine pu_ 9 23 (bs 41 767) HT_ ?_
   refine pu_ 10 24 (bs 41 1791) HT_ ?_
   refine tk_ 8 22 (bs 41 2047) HT_ HW_ hHeld ?_
   refine on_ 11 (some 25) (bs 41 4095) HT_ (fun K hK => ?_)
   refine goes_ Try.func99 (by kernel_rfl) rfl #[.int .i64 ((rd_T47 l1 x9_1).f1), .int .i64 0, .int .i64 (wrap64 (a0 - 1))] (by rfl) rfl rfl tm_ ?_
   with_reducible refine (impl_in.calls ((rd_T47 l1 x9_1).f1) 0 (wrap64 (a0 - 1)) true _ A8.out).mono ?_
   rintro e w' ⟨rfl, ⟨nd, rfl⟩⟩
   refine ⟨_, rfl, ?_⟩
   refine hK.out _ _ ⟨bc_ BK241 0, bc_ BK241 1, bc_ BK241 2, ((HB.out.cell (World.block_lt_of_cell? w _ hw245_0)).trans hw245_0), ((HB.out.cell (World.block_lt_of_cell? w _ hw245_1)).trans hw245_1), ((HB.out.cell (World.block_lt_of_cell? w _ hw245_2)).trans hw245_2)⟩ (fun hHeld => ?_)
   clear hK K
   refine nm_ 25 ?_
   refine pu_ 12 26 (bs 41 8191) HT_ ?_
   refine pu_ 13 27 (bs 41 16383) HT_ ?_
   refine pu_ 14 28 (bs 41 32767) HT_ ?_
   refine pu_ 15 29 (bs 41 65535) HT_ ?_
   refine pu_ 17 31 (bs 41 196607) HT_ ?_
   refine tk_ 16 30 (bs 41 262143) HT_ HW_ hHeld ?_
   refine tk_ 18 32 (bs 41 524287) HT_ HW_ hHeld ?_
   refine pu_ 19 33 (bs 41 1048575) HT_ ?_
   refine pu_ 20 34 (bs 41 2097151) HT_ ?_
   refine pu_ 21 35 (bs 41 4194303) HT_ ?_
   refine pu_ 22 36 (bs 41 8388607) HT_ ?_
   refine tk_ 23 37 (bs 41 16777215) HT_ HW_ hHeld ?_
   refine on_ 24 (some 38) (bs 41 33554431) HT_ (fun K hK => ?_)
   refine goes_ Try.func99 (by kernel_rfl) rfl #[.int .i64 ((rd_T47 l1 x9_1).f2), .int .i64 1, .int .i64 100] (by rfl) rfl rfl tm_ ?_
   with_reducible refine (impl_in.calls ((rd_T47 l1 x9_1).f2) 1 100 true _ A15.out).mono ?_
   rintro e w' ⟨rfl, ⟨nd, rfl⟩⟩
   refine ⟨_, rfl, ?_⟩
   refine hK.out _ _ ⟨bc_ BK241 0, bc_ BK241 1, bc_ BK241 2, ((HB.out.cell (World.block_lt_of_cell? w _ hw245_0)).trans hw245_0), ((HB.out.cell (World.block_lt_of_cell? w _ hw245_1)).trans hw245_1), ((HB.out.cell (World.block_lt_of_cell? w _ hw245_2)).trans hw245_2)⟩ (fun hHeld => ?_)
   clear hK K
   refine nm_ 38 ?_
   refine pu_ 25 39 (bs 41 67108863) HT_ ?_
   refine pu_ 26 40 (bs 41 134217727) HT_ ?_
   refine pu_ 27 41 (bs 41 268435455) HT_ ?_
   refine pu_ 28 42 (bs 41 536870911) HT_ ?_
   refine pu_ 29 43 (bs 41 1073741823) HT_ ?_
   refine pu_ 30 44 (bs 41 2147483647) HT_ ?_
   refine pu_ 31 45 (bs 41 4294967295) HT_ ?_
   refine pu_ 32 46 (bs 41 8589934591) HT_ ?_
   refine pu_ 33 47 (bs 41 17179869183) HT_ ?_
   refine pu_ 34 48 (bs 41 34359738367) HT_ ?_
   refine tk_ 35 49 (bs 41 68719476735) HT_ HW_ hHeld ?_
   refine tk_ 36 50 (bs 41 137438953471) HT_ HW_ hHeld ?_
   refine on_ 37 (some 51) (bs 41 274877906943) HT_ (fun K hK => ?_)
   refine goes_ Try.func110 (by kernel_rfl) rfl #[.agg #[.int .i64 ((rd_T47 l1 (ji18)).f0), .int .i64 ((rd_T47 l1 (ji18)).f1), .int .i64 ((rd_T47 l1 (ji18)).f2)], .agg #[.int .i64 ((rd_T47 l1 x9_1).f0), .int .i64 ((rd_T47 l1 x9_1).f1), .int .i64 ((rd_T47 l1 x9_1).f2)]] (by rfl) rfl rfl (by (try simp only [List.map_toArray, List.map_cons, List.map_nil]); first | done | (simp only [hji18]; rfl) | rfl | (simp only [List.length_drop, List.length_take]; rfl)) ?_
   with_reducible refine (impl_byEnds.calls ((rd_T47 l1 (ji18)).f0) ((rd_T47 l1 (ji18)).f1) ((rd_T47 l1 (ji18)).f2) ((rd_T47 l1 x9_1).f0) ((rd_T47 l1 x9_1).f1) ((rd_T47 l1 x9_1).f2) t246 _ A21.out).mono ?_
   rintro e w27 ⟨rfl, hb⟩
   refine ⟨_, rfl, ?_⟩
   replace BK241 := bb_ BK241 hb
   replace HB := bst_ HB hb
   clear hb
   refine hK.out _ _ ⟨bc_ BK241 0, bc_ BK241 1, bc_ BK241 2, ((HB.out.cell (World.block_lt_of_cell? w _ hw245_0)).trans hw245_0), ((HB.out.cell (World.block_lt_of_cell? w _ hw245_1)).trans hw245_1), ((HB.out.cell (World.block_lt_of_cell? w _ hw245_2)).trans hw245_2)⟩ (fun hHeld => ?_)
   clear hK K
   refine nm_ 51 ?_
   refine pu_ 38 52 (bs 41 549755813887) HT_ ?_
   refine pu_ 39 53 (bs 41 1099511627775) HT_ ?_
   refine pu_ 40 54 (bs 41 2199023255551) HT_ ?_
   refine done_ (done_of HT_.out (by kernel_rfl)) ?_
   try go_wp2
   go_ret
   exact ⟨by first | rfl | (simp [errW_none, errW_some] <;> rfl) | (simp only [← hji18]; first | rfl | (simp [errW_none, errW_some] <;> rfl)) | (simp [*, errW_none, errW_some] <;> rfl), hB HB⟩

def impl_allIn.l0 : Nat → Int → Int → List Int → Int → Int → Option (Bool)
 | 0, _, _, _, _, _ => none
 | k + 1, x1, x2, x9, x10, x11 => if x11 < x10 then (if 0 ≤ x11 then (if x11 < (x9.length : Int) then ((impl_in.f (rd x9 x11) x1 x2).bind fun t248 => (if t248 = true then (impl_allIn.l0 k x1 x2 x9 x10 (wrap64 (x11 + 1))) else (some false))) else (none)) else (none)) else (some true)
def impl_allIn.f (k : Nat) (l0 : List Int) (a1 : Int) (a2 : Int) : Option (Bool) := impl_allIn.l0 k a1 a2 l0 (l0.length : Int) 0
theorem impl_allIn.mono_l : ∀ k, (∀ y0 y1 y2 y3 y4, LeO (impl_allIn.l0 k y0 y1 y2 y3 y4) (impl_allIn.l0 (k + 1) y0 y1 y2 y3 y4))
 | 0 => fun _ _ _ _ _ r h => by simp [impl_allIn.l0] at h
 | k + 1 => by
  have ih0 := impl_allIn.mono_l k
  ·intro y0 y1 y2 y3 y4
   unfold impl_allIn.l0
   repeat' first
   | (with_reducible exact ih0 _ _ _ _ _)
   | with_reducible first | exact LeO.refl _ | exact LeO.none _ | refine LeO.ite ?_ ?_ | refine LeO.bind ?_ fun _ => ?_
theorem impl_allIn.mono : ∀ a0 a1 a2 k, LeO (impl_allIn.f k a0 a1 a2) (impl_allIn.f (k + 1) a0 a1 a2) := by
 intro a0 a1 a2 k
 have ih0 := impl_allIn.mono_l k
 unfold impl_allIn.f
 repeat' first
   | (with_reducible exact ih0 _ _ _ _ _)
   | with_reducible first | exact LeO.refl _ | exact LeO.none _ | refine LeO.ite ?_ ?_ | refine LeO.bind ?_ fun _ => ?_
set_option maxHeartbeats 8000000 in
set_option maxRecDepth 100000 in
theorem impl_allIn.calls (k : Nat) (A0 : Option Addr) (c0 : Nat) (l0 : List Int) (a1 : Int) (a2 : Int) (r : Bool) (w : World) (hr0 : Kd.C (Kd.int .i64) w A0 l0.length l0) (hc0 : l0.length ≤ c0) (h : impl_allIn.f k l0 a1 a2 = some r) :
  Calls Try.prog 105 #[.slice A0 l0.length c0, .int .i64 a1, .int .i64 a2] w fun e w' => e = .returned (.bool r) ∧ Drawn0 w w' := by
 have HR0 := Aside0.mk hr0
 have HC0 := Aside0.mk hc0
 clear hr0 hc0
 have H : (impl_allIn.l0 k a1 a2 l0 (l0.length : Int) 0) = some r := h
 clear h
 have H' := Aside0.mk H
 clear H
 go_enter Try.func105, Try.ntmps105
 go_wp2
 go_loopg [11] k (fun kq v11 w' => ∃ (x11_1 : Int), v11 = .int .i64 x11_1 ∧ Aside0 (impl_allIn.l0 kq a1 a2 l0 (l0.length : Int) x11_1 = some r) ∧ Aside0 (kq ≤ k) ∧ Drawn0 w w')
 case atStart => exact ⟨(0), (by first | rfl | (simp; done) | (simp [*]; done)), H', ⟨Nat.le_refl _⟩, by repeat (first | exact Drawn0.refl _ | apply Drawn0.step)⟩
 case round =>
  clear H'
  obtain ⟨x11_1, rfl, HA, HK1, ⟨m1, rfl⟩⟩ := hrel
  cases gk with
  | zero => exact absurd HA.out (by simp [impl_allIn.l0])
  | succ k1 =>
   have H := HA.out
   clear HA
   simp only [impl_allIn.l0] at H
   by_cases c4 : x11_1 < (l0.length : Int)
   rotate_left
   ·rw [if_neg c4] at H
    have c4b0 : decide (x11_1 < (l0.length : Int)) = false := decide_eq_false c4
    clear c4
    obtain rfl := Option.some.inj H
    go_wp2
    go_ret
    exact ⟨by first | rfl | (simp; done) | (simp [*]; done), by repeat (first | exact Drawn0.refl _ | apply Drawn0.step)⟩
   rw [if_pos c4] at H
   have c4b0 : decide (x11_1 < (l0.length : Int)) = true := decide_eq_true c4
   clear c4
   by_cases c5 : 0 ≤ x11_1
   rotate_left
   ·rw [if_neg c5] at H
    exact absurd H (by simp)
   rw [if_pos c5] at H
   have c5b0 : decide (0 ≤ x11_1) = true := decide_eq_true c5
   clear c5
   by_cases c6 : x11_1 < (l0.length : Int)
   rotate_left
   ·rw [if_neg c6] at H
    exact absurd H (by simp)
   rw [if_pos c6] at H
   have c6b0 : decide (x11_1 < (l0.length : Int)) = true := decide_eq_true c6
   clear c6
   replace H := Option.bind_eq_some_iff.mp H
   obtain ⟨t248, A70, H⟩ := H
   replace H : (if t248 = true then (impl_allIn.l0 k1 a1 a2 l0 (l0.length : Int) (wrap64 (x11_1 + 1))) else (some false)) = some r := H
   have A7 := Aside0.mk A70
   clear A70
   by_cases c8 : t248 = true
   rotate_left
   ·replace c8 := Bool.eq_false_iff.mpr c8
    subst c8
    rw [if_neg (show ¬ (false = true) by decide)] at H
    obtain rfl := Option.some.inj H
    have p247 : 0 ≤ (x11_1 : Int) := od_
    have q247 : x11_1 < (l0.length : Int) := od_
    obtain ⟨ad247, e247, hx247_0⟩ := Kd.at_int HR0.out x11_1 p247 q247
    cases e247
    replace p247 := eq_true p247
    replace q247 := eq_true q247
    go_wp2_with (first | ((with_reducible refine gate_dst (N := 18) rfl ?_); refine goesL_ (some 18) rfl rfl Try.func99 (by kernel_rfl) rfl #[.int .i64 (rd l0 x11_1), .int .i64 a1, .int .i64 a2] rfl tm_ ?_; (with_reducible refine (impl_in.calls (rd l0 x11_1) a1 a2 false _ A7.out).mono ?_); rintro e w' ⟨rfl, ⟨nd, rfl⟩⟩; refine ⟨_, rfl, ?_⟩))
    go_ret
    exact ⟨by first | rfl | (simp; done) | (simp [*]; done), by repeat (first | exact Drawn0.refl _ | apply Drawn0.step)⟩
   subst c8
   rw [if_pos rfl] at H
   have H' := Aside0.mk H
   clear H
   have p247 : 0 ≤ (x11_1 : Int) := od_
   have q247 : x11_1 < (l0.length : Int) := od_
   obtain ⟨ad247, e247, hx247_0⟩ := Kd.at_int HR0.out x11_1 p247 q247
   cases e247
   replace p247 := eq_true p247
   replace q247 := eq_true q247
   go_wp2_with (first | ((with_reducible refine gate_dst (N := 18) rfl ?_); refine goesL_ (some 18) rfl rfl Try.func99 (by kernel_rfl) rfl #[.int .i64 (rd l0 x11_1), .int .i64 a1, .int .i64 a2] rfl tm_ ?_; (with_reducible refine (impl_in.calls (rd l0 x11_1) a1 a2 true _ A7.out).mono ?_); rintro e w' ⟨rfl, ⟨nd, rfl⟩⟩; refine ⟨_, rfl, ?_⟩))
   go_roundg k1
   case measure => have := HK1.out; omega
   case rel => exact ⟨(wrap64 (x11_1 + 1)), (by first | rfl | (simp; done) | (simp [*]; done)), H', ⟨by have := HK1.out; omega⟩, by repeat (first | exact Drawn0.refl _ | apply Drawn0.step)⟩

def impl_goodAt.f (k : Nat) (a0 : Int) (l1 : List (S47)) (l2 : List Int) : Option (Bool) := (impl_GoodEdges.f k a0 l1).bind fun t249 => (if t249 = true then ((impl_allIn.f k l2 0 (wrap64 (a0 - 1))).bind fun t250 => (some t250)) else (some false))
theorem impl_goodAt.mono : ∀ a0 a1 a2 k, LeO (impl_goodAt.f k a0 a1 a2) (impl_goodAt.f (k + 1) a0 a1 a2) := by
 intro a0 a1 a2 k
 unfold impl_goodAt.f
 repeat' first
   | (with_reducible exact impl_GoodEdges.mono _ _ _)
   | (with_reducible exact impl_allIn.mono _ _ _ _)
   | with_reducible first | exact LeO.refl _ | exact LeO.none _ | refine LeO.ite ?_ ?_ | refine LeO.bind ?_ fun _ => ?_
set_option maxHeartbeats 8000000 in
set_option maxRecDepth 100000 in
theorem impl_goodAt.calls (k : Nat) (a0 : Int) (A1 : Option Addr) (c1 : Nat) (l1 : List (S47)) (A2 : Option Addr) (c2 : Nat) (l2 : List Int) (r : Bool) (w : World) (hr1 : Kd.C k47 w A1 l1.length l1) (hc1 : l1.length ≤ c1) (hr2 : Kd.C (Kd.int .i64) w A2 l2.length l2) (hc2 : l2.length ≤ c2) (h : impl_goodAt.f k a0 l1 l2 = some r) :
  Calls Try.prog 61 #[.int .i64 a0, .slice A1 l1.length c1, .slice A2 l2.length c2] w fun e w' => e = .returned (.bool r) ∧ Below w.heap.size w w' := by
 have HR1 := Aside0.mk hr1
 have HC1 := Aside0.mk hc1
 clear hr1 hc1
 have HR2 := Aside0.mk hr2
 have HC2 := Aside0.mk hc2
 clear hr2 hc2
 have HB := Aside0.mk (Below.refl w.heap.size w)
 have H : ((impl_GoodEdges.f k a0 l1).bind fun t249 => (if t249 = true then ((impl_allIn.f k l2 0 (wrap64 (a0 - 1))).bind fun t250 => (some t250)) else (some false))) = some r := h
 clear h
 replace H := Option.bind_eq_some_iff.mp H
 obtain ⟨t249, A40, H⟩ := H
 replace H : (if t249 = true then ((impl_allIn.f k l2 0 (wrap64 (a0 - 1))).bind fun t250 => (some t250)) else (some false)) = some r := H
 have A4 := Aside0.mk A40
 clear A40
 by_cases c5 : t249 = true
 rotate_left
 ·replace c5 := Bool.eq_false_iff.mpr c5
  subst c5
  rw [if_neg (show ¬ (false = true) by decide)] at H
  obtain rfl := Option.some.inj H
  go_enter Try.func61, Try.ntmps61
  go_wp2_with (first | ((with_reducible refine gate_dst (N := 9) rfl ?_); refine goesL_ (some 9) rfl rfl Try.func68 (by kernel_rfl) rfl #[.int .i64 a0, .slice A1 l1.length c1] rfl tm_ ?_; (with_reducible refine (impl_GoodEdges.calls k a0 _ _ l1 false _ ?side1 ?side2 A4.out).mono ?_); (case side1 => exact ca HR1.out); (case side2 => exact HC1.out); rintro e w8 ⟨rfl, hb⟩; refine ⟨_, rfl, ?_⟩; replace HB := bst_ HB hb; clear hb))
  go_ret
  exact ⟨rt_, hB HB⟩
 subst c5
 rw [if_pos rfl] at H
 replace H := Option.bind_eq_some_iff.mp H
 obtain ⟨t250, A60, H⟩ := H
 replace H : (some t250) = some r := H
 have A6 := Aside0.mk A60
 clear A60
 obtain rfl := Option.some.inj H
 go_enter Try.func61, Try.ntmps61
 go_wp2_with (first | ((with_reducible refine gate_dst (N := 9) rfl ?_); refine goesL_ (some 9) rfl rfl Try.func68 (by kernel_rfl) rfl #[.int .i64 a0, .slice A1 l1.length c1] rfl tm_ ?_; (with_reducible refine (impl_GoodEdges.calls k a0 _ _ l1 true _ ?side1 ?side2 A4.out).mono ?_); (case side1 => exact ca HR1.out); (case side2 => exact HC1.out); rintro e w7 ⟨rfl, hb⟩; refine ⟨_, rfl, ?_⟩; replace HB := bst_ HB hb; clear hb) | (go_at_call 105; (with_reducible refine (impl_allIn.calls k _ _ l2 0 (wrap64 (a0 - 1)) t250 _ ?side1 ?side2 A6.out).mono ?_); (case side1 => exact cb_ HR2 HB); (case side2 => exact HC2.out); rintro e w' ⟨rfl, ⟨nd, rfl⟩⟩))
 go_ret
 exact ⟨rt_, hB HB⟩

mutual
def impl_flow_edge.l0 : Nat → Int → Int → List (S47) → Int → Int → Int → List (S47) → List Int → Option (Int × Int × Int)
 | 0, _, _, _, _, _, _, _, _ => none
 | k + 1, x1, x2, x13, x14, x15, x1000, x1001, x1002 => if x15 < x14 then (if 0 ≤ x15 then (if x15 < (x13.length : Int) then (if ((rd_T47 x13 x15).f0) = x1 then (impl_flow_edge.j1 k x1 x2 x15 x13 x14 x15 (((rd_T47 x13 x15).f1) == x2) x1000 x1001 x1002 ((rd_T47 x13 x15).f0) ((rd_T47 x13 x15).f1) ((rd_T47 x13 x15).f2)) else (impl_flow_edge.j1 k x1 x2 x15 x13 x14 x15 false x1000 x1001 x1002 ((rd_T47 x13 x15).f0) ((rd_T47 x13 x15).f1) ((rd_T47 x13 x15).f2))) else (none)) else (none)) else (some ((-1), 0, x1000))
def impl_flow_edge.j1 : Nat → Int → Int → Int → List (S47) → Int → Int → Bool → Int → List (S47) → List Int → Int → Int → Int → Option (Int × Int × Int)
 | 0, _, _, _, _, _, _, _, _, _, _, _, _, _ => none
 | k + 1, x1, x2, x8, x13, x14, x15, x29, x1000, x1001, x1002, x253000, x253001, x253002 => if x29 = true then (some (x8, 1, x1000)) else (if x253000 = x2 then (if x253001 = x1 then (some (x8, (-1), x1000)) else (impl_flow_edge.l0 k x1 x2 x13 x14 (wrap64 (x15 + 1)) x1000 x1001 x1002)) else (impl_flow_edge.l0 k x1 x2 x13 x14 (wrap64 (x15 + 1)) x1000 x1001 x1002))
end
def impl_flow_edge.f (k : Nat) (s0_0 : Int) (s0_1 : List (S47)) (s0_2 : List Int) (a1 : Int) (a2 : Int) : Option (Int × Int × Int) := impl_flow_edge.l0 k a1 a2 s0_1 (s0_1.length : Int) 0 s0_0 s0_1 s0_2
theorem impl_flow_edge.mono_l : ∀ k, (∀ y0 y1 y2 y3 y4 y5 y6 y7, LeO (impl_flow_edge.l0 k y0 y1 y2 y3 y4 y5 y6 y7) (impl_flow_edge.l0 (k + 1) y0 y1 y2 y3 y4 y5 y6 y7)) ∧ (∀ y0 y1 y2 y3 y4 y5 y6 y7 y8 y9 y10 y11 y12, LeO (impl_flow_edge.j1 k y0 y1 y2 y3 y4 y5 y6 y7 y8 y9 y10 y11 y12) (impl_flow_edge.j1 (k + 1) y0 y1 y2 y3 y4 y5 y6 y7 y8 y9 y10 y11 y12))
 | 0 => ⟨fun _ _ _ _ _ _ _ _ r h => by simp [impl_flow_edge.l0] at h, fun _ _ _ _ _ _ _ _ _ _ _ _ _ r h => by simp [impl_flow_edge.j1] at h⟩
 | k + 1 => by
  obtain ⟨ih0, ih1⟩ := impl_flow_edge.mono_l k
  refine ⟨?_, ?_⟩
  ·intro y0 y1 y2 y3 y4 y5 y6 y7
   unfold impl_flow_edge.l0
   repeat' first
   | (with_reducible exact ih0 _ _ _ _ _ _ _ _)
   | (with_reducible exact ih1 _ _ _ _ _ _ _ _ _ _ _ _ _)
   | with_reducible first | exact LeO.refl _ | exact LeO.none _ | refine LeO.ite ?_ ?_ | refine LeO.bind ?_ fun _ => ?_
  ·intro y0 y1 y2 y3 y4 y5 y6 y7 y8 y9 y10 y11 y12
   unfold impl_flow_edge.j1
   repeat' first
   | (with_reducible exact ih0 _ _ _ _ _ _ _ _)
   | (with_reducible exact ih1 _ _ _ _ _ _ _ _ _ _ _ _ _)
   | with_reducible first | exact LeO.refl _ | exact LeO.none _ | refine LeO.ite ?_ ?_ | refine LeO.bind ?_ fun _ => ?_
theorem impl_flow_edge.mono : ∀ a0 a1 a2 a3 a4 k, LeO (impl_flow_edge.f k a0 a1 a2 a3 a4) (impl_flow_edge.f (k + 1) a0 a1 a2 a3 a4) := by
 intro a0 a1 a2 a3 a4 k
 obtain ⟨ih0, ih1⟩ := impl_flow_edge.mono_l k
 unfold impl_flow_edge.f
 repeat' first
   | (with_reducible exact ih0 _ _ _ _ _ _ _ _)
   | (with_reducible exact ih1 _ _ _ _ _ _ _ _ _ _ _ _ _)
   | with_reducible first | exact LeO.refl _ | exact LeO.none _ | refine LeO.ite ?_ ?_ | refine LeO.bind ?_ fun _ => ?_
set_option maxHeartbeats 8000000 in
set_option maxRecDepth 100000 in
theorem impl_flow_edge.calls (k : Nat) (g : Nat) (s0_0 : Int) (s0_1 : List (S47)) (s0_2 : List Int) (a1 : Int) (a2 : Int) (r1 : Int) (r2 : Int) (r3 : Int) (w0 w : World) (hI : IsS109 w0 w g s0_0 s0_1 s0_2) (hB : Below w0.heap.size w0 w) (h : impl_flow_edge.f k s0_0 s0_1 s0_2 a1 a2 = some (r1, r2, r3)) :
  Calls Try.prog 121 #[.pointer (some ⟨g, 0, none⟩), .int .i64 a1, .int .i64 a2] w fun e w' => e = .returned (.tuple #[.int .i64 r1, .int .i64 r2]) ∧ IsS109 w0 w' g r3 s0_1 s0_2 ∧ Below w0.heap.size w0 w' ∧ KeepAll w w' g none := by
 have hu47 := Try.underlying47
 have HI0 := Aside0.mk hI
 have HK := Aside0.mk (KeepAll.refl w g none)
 have HL := Aside0.mk hB.size
 clear hI
 have HW0 := Aside0.mk hB.size
 have HB := Aside0.mk hB
 clear hB
 have H : (impl_flow_edge.l0 k a1 a2 s0_1 (s0_1.length : Int) 0 s0_0 s0_1 s0_2) = some (r1, r2, r3) := h
 clear h
 have H' := Aside0.mk H
 clear H
 obtain ⟨ASz4_1, cSz4_1, ASz4_2, cSz4_2, HGz4, hgz4, HSz4_1, HSz4_2⟩ := HI0.out
 have hcz4_0 := cellS109_0 HGz4
 have hcz4_1 := cellS109_1 HGz4
 have hcz4_2 := cellS109_2 HGz4
 have hfz4_0 := blk_frozen HGz4 0
 clear HGz4 hgz4
 go_enter Try.func121, Try.ntmps121
 go_wp2
 go_loopg [15] k (fun kq v15 w' => ∃ (x15_1 : Int), v15 = .int .i64 x15_1 ∧ Aside0 (impl_flow_edge.l0 kq a1 a2 s0_1 (s0_1.length : Int) x15_1 s0_0 s0_1 s0_2 = some (r1, r2, r3)) ∧ Aside0 (kq ≤ k) ∧ Aside0 (IsS109 w0 w' g s0_0 s0_1 s0_2) ∧ Aside0 (KeepAll w w' g none) ∧ Aside0 (Below w0.heap.size w0 w'))
 case atStart => exact ⟨(0), (by first | rfl | (simp; done) | (simp [*]; done)), H', ⟨Nat.le_refl _⟩, ⟨by repeat (first | (with_reducible first | exact HI0.out | apply IsS109.alloc | apply IsS109.drewN | apply IsS109.drew | apply IsS109.set_0) | exact HI0.out)⟩, ⟨by repeat (first | (with_reducible first | exact HK.out | apply keepA_drewN | apply keepA_drew | apply keepA_alloc) | exact HK.out)⟩, ⟨by repeat (first | (with_reducible first | exact HB.out | apply below_alloc | apply pw_below_drewN | apply below_drew1 | refine below_set ?_ (IsS109.ge HI0.out)) | exact HB.out)⟩⟩
 case round =>
  clear H'
  try clear hcz4_0
  try clear hcz4_1
  try clear hcz4_2
  try clear hfz4_0
  obtain ⟨x15_1, rfl, HA, HK1, HI0, HK, HB⟩ := hrel
  cases gk with
  | zero => exact absurd HA.out (by simp [impl_flow_edge.l0])
  | succ k1 =>
   have H := HA.out
   clear HA
   simp only [impl_flow_edge.l0] at H
   by_cases c5 : x15_1 < (s0_1.length : Int)
   rotate_left
   ·rw [if_neg c5] at H
    have c5b0 : decide (x15_1 < (s0_1.length : Int)) = false := decide_eq_false c5
    clear c5
    simp only [Option.some.injEq, Prod.mk.injEq] at H
    obtain ⟨rfl, rfl, rfl⟩ := H
    go_wp2
    go_ret2
    exact ⟨rt_, by repeat (first | (with_reducible first | exact HI0.out | apply IsS109.alloc | apply IsS109.drewN | apply IsS109.drew | apply IsS109.set_0) | exact HI0.out), by repeat (first | (with_reducible first | exact HB.out | apply below_alloc | apply pw_below_drewN | apply below_drew1 | refine below_set ?_ (IsS109.ge HI0.out)) | exact HB.out), by repeat (first | (with_reducible first | exact HK.out | apply keepA_drewN | apply keepA_drew | apply keepA_alloc) | exact HK.out)⟩
   rw [if_pos c5] at H
   have c5b0 : decide (x15_1 < (s0_1.length : Int)) = true := decide_eq_true c5
   clear c5
   by_cases c6 : 0 ≤ x15_1
   rotate_left
   ·rw [if_neg c6] at H
    exact absurd H (by simp)
   rw [if_pos c6] at H
   have c6b0 : decide (0 ≤ x15_1) = true := decide_eq_true c6
   clear c6
   by_cases c7 : x15_1 < (s0_1.length : Int)
   rotate_left
   ·rw [if_neg c7] at H
    exact absurd H (by simp)
   rw [if_pos c7] at H
   have c7b0 : decide (x15_1 < (s0_1.length : Int)) = true := decide_eq_true c7
   clear c7
   have HC8 := Aside0.mk H
   clear H
   obtain ⟨ASz9_1, cSz9_1, ASz9_2, cSz9_2, HGz9, hgz9, HSz9_1, HSz9_2⟩ := HI0.out
   have hcz9_0 := cellS109_0 HGz9
   have hcz9_1 := cellS109_1 HGz9
   have hcz9_2 := cellS109_2 HGz9
   have hfz9_0 := blk_frozen HGz9 0
   clear HGz9 hgz9
   have p251 : 0 ≤ (x15_1 : Int) := od_
   have q251 : x15_1 < (s0_1.length : Int) := od_
   obtain ⟨ad251, e251, hx251_0, hx251_1, hx251_2⟩ := at_T47 HSz4_1 x15_1 p251 q251
   cases e251
   replace hx251_0 := pw_cell_below HB.out hx251_0
   replace hx251_1 := pw_cell_below HB.out hx251_1
   replace hx251_2 := pw_cell_below HB.out hx251_2
   replace p251 := eq_true p251
   replace q251 := eq_true q251
   go_upto_region 4 with (first | ((with_reducible refine gate_dst (N := 9) rfl ?_); refine bx_ev 9 #[.int .i64 0, .int .i64 0, .int .i64 0] 47 ?_; intro gb252 hg w10 hbox hb; have BK252 := Aside0.mk (hbox); have GW252 := Aside0.mk ((by rw [hg]; exact (keepA_size (w := w) (g := g) (row := none) (by repeat (first | (with_reducible first | exact HK.out | apply keepA_drewN | apply keepA_drew | apply keepA_alloc) | exact HK.out))) : w.heap.size ≤ gb252)); have GE252 := Aside0.mk ((Nat.le_trans HW0.out (by rw [hg]; exact (keepA_size (w := w) (g := g) (row := none) (by repeat (first | (with_reducible first | exact HK.out | apply keepA_drewN | apply keepA_drew | apply keepA_alloc) | exact HK.out))) : w.heap.size ≤ gb252) : w0.heap.size ≤ gb252)); have NB0_252 := Aside0.mk ((by rw [hg]; exact Nat.ne_of_lt (IsS109.lt (show IsS109 w0 _ g s0_0 s0_1 s0_2 from by repeat (first | (with_reducible first | exact HI0.out | apply IsS109.alloc | apply IsS109.drewN | apply IsS109.drew | apply IsS109.set_0) | exact HI0.out))) : g ≠ gb252)); have NB252_0 := Aside0.mk ((by rw [hg]; exact Nat.ne_of_gt (IsS109.lt (show IsS109 w0 _ g s0_0 s0_1 s0_2 from by repeat (first | (with_reducible first | exact HI0.out | apply IsS109.alloc | apply IsS109.drewN | apply IsS109.drew | apply IsS109.set_0) | exact HI0.out))) : gb252 ≠ g)); replace HK := Aside0.mk (KeepAll.trans (by repeat (first | (with_reducible first | exact HK.out | apply keepA_drewN | apply keepA_drew | apply keepA_alloc) | exact HK.out)) (KeepAll.of_below hb g none) (.inl rfl)); replace HB := Aside0.mk (below_step (by repeat (first | (with_reducible first | exact HB.out | apply below_alloc | apply pw_below_drewN | apply below_drew1 | refine below_set ?_ (IsS109.ge HI0.out)) | exact HB.out)) hb); replace HI0 := Aside0.mk (IsS109.below (by repeat (first | (with_reducible first | exact HI0.out | apply IsS109.alloc | apply IsS109.drewN | apply IsS109.drew | apply IsS109.set_0) | exact HI0.out)) hb); clear hb hbox hg; obtain ⟨hnb11, hnc11⟩ := nn_ NB252_0; obtain ⟨hcz12_0, hcz12_1, hcz12_2⟩ := bcs3_ BK252; obtain ⟨hfz12_0, hfz12_1, hfz12_2⟩ := bz3_ BK252))
   (try simp only [Act.put, List.setIfInBounds_toArray, List.set_cons_zero, List.set_cons_succ])
   go_cut [29] (fun v29 wc => ∃ (kq : Nat) (x29_7 : Bool), v29 = .bool x29_7 ∧ Aside0 (impl_flow_edge.j1 kq a1 a2 x15_1 s0_1 (s0_1.length : Int) x15_1 x29_7 s0_0 s0_1 s0_2 ((rd_T47 s0_1 x15_1).f0) ((rd_T47 s0_1 x15_1).f1) ((rd_T47 s0_1 x15_1).f2) = some (r1, r2, r3)) ∧ Aside0 (kq ≤ k1) ∧ Aside0 (wc.heap[gb252]? = some (.cells #[.int .i64 ((rd_T47 s0_1 x15_1).f0), .int .i64 ((rd_T47 s0_1 x15_1).f1), .int .i64 ((rd_T47 s0_1 x15_1).f2)] 47 (0, 0))) ∧ Aside0 (IsS109 w0 wc g s0_0 s0_1 s0_2) ∧ Aside0 (KeepAll w wc g none) ∧ Aside0 (Below w0.heap.size w0 wc))
   case first =>
    have H := HC8.out
    clear HC8
    by_cases c13 : ((rd_T47 s0_1 x15_1).f0) = a1
    rotate_left
    ·rw [if_neg c13] at H
     have c13b0 : (((rd_T47 s0_1 x15_1).f0) == a1) = false := beq_eq_false_iff_ne.mpr c13
     have c13b1 : (((rd_T47 s0_1 x15_1).f0) != a1) = true := bne_iff_ne.mpr c13
     (first | rw [c13b0] | (simp only [i64_w, i32_w]; rw [c13b0]) | skip)
     have H' := Aside0.mk H
     clear H
     obtain ⟨hnb16, hnc16⟩ := nn_ NB252_0
     obtain ⟨hcz17_0, hcz17_1, hcz17_2⟩ := bcs3_ BK252
     obtain ⟨hfz17_0, hfz17_1, hfz17_2⟩ := bz3_ BK252
     go_wp2
     go_meet
     case rel => exact ⟨_, (false), (by first | rfl | (simp; done) | (simp [*]; done)), H', ⟨by have := HK1.out; first | omega | exact Nat.le_refl _⟩, ⟨bw0_ BK252⟩, ⟨by repeat (first | (with_reducible first | exact HI0.out | apply IsS109.alloc | apply IsS109.drewN | apply IsS109.drew | apply IsS109.set_0 | refine IsS109.far ?_ NB0_252.out _) | exact HI0.out)⟩, ⟨by repeat (first | (with_reducible first | exact HK.out | apply keepA_drewN | apply keepA_drew | apply keepA_alloc | refine keepA_far ?_ GW252.out _) | exact HK.out)⟩, ⟨by repeat (first | (with_reducible first | exact HB.out | apply below_alloc | apply pw_below_drewN | apply below_drew1 | refine below_set ?_ (IsS109.ge HI0.out) | refine below_set ?_ GE252.out) | exact HB.out)⟩⟩
    rw [if_pos c13] at H
    have c13b0 : (((rd_T47 s0_1 x15_1).f0) == a1) = true := beq_iff_eq.mpr c13
    have c13b1 : (((rd_T47 s0_1 x15_1).f0) != a1) = false := bne_eq_false_iff_eq.mpr c13
    clear c13
    (first | rw [c13b0] | (simp only [i64_w, i32_w]; rw [c13b0]) | skip)
    have H' := Aside0.mk H
    clear H
    obtain ⟨hnb14, hnc14⟩ := nn_ NB252_0
    obtain ⟨hcz15_0, hcz15_1, hcz15_2⟩ := bcs3_ BK252
    obtain ⟨hfz15_0, hfz15_1, hfz15_2⟩ := bz3_ BK252
    go_wp2
    go_meet
    case rel => exact ⟨_, ((((rd_T47 s0_1 x15_1).f1) == a2)), (by first | rfl | (simp; done) | (simp [*]; done)), H', ⟨by have := HK1.out; first | omega | exact Nat.le_refl _⟩, ⟨bw0_ BK252⟩, ⟨by repeat (first | (with_reducible first | exact HI0.out | apply IsS109.alloc | apply IsS109.drewN | apply IsS109.drew | apply IsS109.set_0 | refine IsS109.far ?_ NB0_252.out _) | exact HI0.out)⟩, ⟨by repeat (first | (with_reducible first | exact HK.out | apply keepA_drewN | apply keepA_drew | apply keepA_alloc | refine keepA_far ?_ GW252.out _) | exact HK.out)⟩, ⟨by repeat (first | (with_reducible first | exact HB.out | apply below_alloc | apply pw_below_drewN | apply below_drew1 | refine below_set ?_ (IsS109.ge HI0.out) | refine below_set ?_ GE252.out) | exact HB.out)⟩⟩
   case rest =>
    clear HC8
    try clear c5
    try clear c5b0
    try clear c6
    try clear c6b0
    try clear c7
    try clear c7b0
    try clear hcz12_0
    try clear hcz12_1
    try clear hcz12_2
    try clear hcz4_0
    try clear hcz4_1
    try clear hcz4_2
    try clear hcz9_0
    try clear hcz9_1
    try clear hcz9_2
    try clear hfz12_0
    try clear hfz12_1
    try clear hfz12_2
    try clear hfz4_0
    try clear hfz9_0
    try clear hx251_0
    try clear hx251_1
    try clear hx251_2
    try clear p251
    try clear q251
    obtain ⟨kq, x29_7, rfl, HA, HJ7, BK252, HI0, HK, HB⟩ := hcut
    cases kq with
    | zero => exact absurd HA.out (by simp [impl_flow_edge.j1])
    | succ kj7 =>
     have H := HA.out
     clear HA
     simp only [impl_flow_edge.j1] at H
     by_cases c18 : x29_7 = true
     ·subst c18
      rw [if_pos rfl] at H
      simp only [Option.some.injEq, Prod.mk.injEq] at H
      obtain ⟨rfl, rfl, rfl⟩ := H
      go_wp2
      go_ret2
      exact ⟨rt_, by repeat (first | (with_reducible first | exact HI0.out | apply IsS109.alloc | apply IsS109.drewN | apply IsS109.drew | apply IsS109.set_0 | refine IsS109.far ?_ NB0_252.out _) | exact HI0.out), by repeat (first | (with_reducible first | exact HB.out | apply below_alloc | apply pw_below_drewN | apply below_drew1 | refine below_set ?_ (IsS109.ge HI0.out) | refine below_set ?_ GE252.out) | exact HB.out), by repeat (first | (with_reducible first | exact HK.out | apply keepA_drewN | apply keepA_drew | apply keepA_alloc | refine keepA_far ?_ GW252.out _) | exact HK.out)⟩
     replace c18 := Bool.eq_false_iff.mpr c18
     subst c18
     rw [if_neg (show ¬ (false = true) by decide)] at H
     by_cases c19 : ((rd_T47 s0_1 x15_1).f0) = a2
     rotate_left
     ·rw [if_neg c19] at H
      have c19b0 : (((rd_T47 s0_1 x15_1).f0) == a2) = false := beq_eq_false_iff_ne.mpr c19
      have c19b1 : (((rd_T47 s0_1 x15_1).f0) != a2) = true := bne_iff_ne.mpr c19
      have H' := Aside0.mk H
      clear H
      obtain ⟨hnb25, hnc25⟩ := nn_ NB252_0
      obtain ⟨hcz26_0, hcz26_1, hcz26_2⟩ := bcs3_ BK252
      obtain ⟨hfz26_0, hfz26_1, hfz26_2⟩ := bz3_ BK252
      go_wp2
      go_roundg kj7
      case measure => have := HK1.out; have := HJ7.out; omega
      case rel => exact ⟨(wrap64 (x15_1 + 1)), (by first | rfl | (simp; done) | (simp [*]; done)), H', ⟨by have := HK1.out; have := HJ7.out; omega⟩, ⟨by repeat (first | (with_reducible first | exact HI0.out | apply IsS109.alloc | apply IsS109.drewN | apply IsS109.drew | apply IsS109.set_0 | refine IsS109.far ?_ NB0_252.out _) | exact HI0.out)⟩, ⟨by repeat (first | (with_reducible first | exact HK.out | apply keepA_drewN | apply keepA_drew | apply keepA_alloc | refine keepA_far ?_ GW252.out _) | exact HK.out)⟩, ⟨by repeat (first | (with_reducible first | exact HB.out | apply below_alloc | apply pw_below_drewN | apply below_drew1 | refine below_set ?_ (IsS109.ge HI0.out) | refine below_set ?_ GE252.out) | exact HB.out)⟩⟩
     rw [if_pos c19] at H
     have c19b0 : (((rd_T47 s0_1 x15_1).f0) == a2) = true := beq_iff_eq.mpr c19
     have c19b1 : (((rd_T47 s0_1 x15_1).f0) != a2) = false := bne_eq_false_iff_eq.mpr c19
     clear c19
     by_cases c20 : ((rd_T47 s0_1 x15_1).f1) = a1
     ·rw [if_pos c20] at H
      have c20b0 : (((rd_T47 s0_1 x15_1).f1) == a1) = true := beq_iff_eq.mpr c20
      have c20b1 : (((rd_T47 s0_1 x15_1).f1) != a1) = false := bne_eq_false_iff_eq.mpr c20
      clear c20
      simp only [Option.some.injEq, Prod.mk.injEq] at H
      obtain ⟨rfl, rfl, rfl⟩ := H
      obtain ⟨hnb21, hnc21⟩ := nn_ NB252_0
      obtain ⟨hcz22_0, hcz22_1, hcz22_2⟩ := bcs3_ BK252
      obtain ⟨hfz22_0, hfz22_1, hfz22_2⟩ := bz3_ BK252
      go_wp2
      go_ret2
      exact ⟨rt_, by repeat (first | (with_reducible first | exact HI0.out | apply IsS109.alloc | apply IsS109.drewN | apply IsS109.drew | apply IsS109.set_0 | refine IsS109.far ?_ NB0_252.out _) | exact HI0.out), by repeat (first | (with_reducible first | exact HB.out | apply below_alloc | apply pw_below_drewN | apply below_drew1 | refine below_set ?_ (IsS109.ge HI0.out) | refine below_set ?_ GE252.out) | exact HB.out), by repeat (first | (with_reducible first | exact HK.out | apply keepA_drewN | apply keepA_drew | apply keepA_alloc | refine keepA_far ?_ GW252.out _) | exact HK.out)⟩
     rw [if_neg c20] at H
     have c20b0 : (((rd_T47 s0_1 x15_1).f1) == a1) = false := beq_eq_false_iff_ne.mpr c20
     have c20b1 : (((rd_T47 s0_1 x15_1).f1) != a1) = true := bne_iff_ne.mpr c20
     have H' := Aside0.mk H
     clear H
     obtain ⟨hnb23, hnc23⟩ := nn_ NB252_0
     obtain ⟨hcz24_0, hcz24_1, hcz24_2⟩ := bcs3_ BK252
     obtain ⟨hfz24_0, hfz24_1, hfz24_2⟩ := bz3_ BK252
     go_wp2
     go_roundg kj7
     case measure => have := HK1.out; have := HJ7.out; omega
     case rel => exact ⟨(wrap64 (x15_1 + 1)), (by first | rfl | (simp; done) | (simp [*]; done)), H', ⟨by have := HK1.out; have := HJ7.out; omega⟩, ⟨by repeat (first | (with_reducible first | exact HI0.out | apply IsS109.alloc | apply IsS109.drewN | apply IsS109.drew | apply IsS109.set_0 | refine IsS109.far ?_ NB0_252.out _) | exact HI0.out)⟩, ⟨by repeat (first | (with_reducible first | exact HK.out | apply keepA_drewN | apply keepA_drew | apply keepA_alloc | refine keepA_far ?_ GW252.out _) | exact HK.out)⟩, ⟨by repeat (first | (with_reducible first | exact HB.out | apply below_alloc | apply pw_below_drewN | apply below_drew1 | refine below_set ?_ (IsS109.ge HI0.out) | refine below_set ?_ GE252.out) | exact HB.out)⟩⟩

def impl_flow_open.f (k : Nat) (s0_0 : Int) (s0_1 : List (S47)) (s0_2 : List Int) (a1 : Int) (a2 : Int) : Option (Bool × Int) := (impl_flow_edge.f k s0_0 s0_1 s0_2 a1 a2).bind fun bt253 => (if bt253.1 ≥ 0 then (if 0 ≤ bt253.1 then (if bt253.1 < (s0_2.length : Int) then (some (((rd s0_2 bt253.1) != bt253.2.1), bt253.2.2)) else (none)) else (none)) else (some (false, bt253.2.2)))
theorem impl_flow_open.mono : ∀ a0 a1 a2 a3 a4 k, LeO (impl_flow_open.f k a0 a1 a2 a3 a4) (impl_flow_open.f (k + 1) a0 a1 a2 a3 a4) := by
 intro a0 a1 a2 a3 a4 k
 unfold impl_flow_open.f
 repeat' first
   | (with_reducible exact impl_flow_edge.mono _ _ _ _ _ _)
   | with_reducible first | exact LeO.refl _ | exact LeO.none _ | refine LeO.ite ?_ ?_ | refine LeO.bind ?_ fun _ => ?_
set_option maxHeartbeats 8000000 in
set_option maxRecDepth 100000 in
theorem impl_flow_open.calls (k : Nat) (g : Nat) (s0_0 : Int) (s0_1 : List (S47)) (s0_2 : List Int) (a1 : Int) (a2 : Int) (r1 : Bool) (r2 : Int) (w0 w : World) (hI : IsS109 w0 w g s0_0 s0_1 s0_2) (hB : Below w0.heap.size w0 w) (h : impl_flow_open.f k s0_0 s0_1 s0_2 a1 a2 = some (r1, r2)) :
  Calls Try.prog 107 #[.pointer (some ⟨g, 0, none⟩), .int .i64 a1, .int .i64 a2] w fun e w' => e = .returned (.bool r1) ∧ IsS109 w0 w' g r2 s0_1 s0_2 ∧ Below w0.heap.size w0 w' ∧ KeepAll w w' g none := by
 have HI0 := Aside0.mk hI
 have HK := Aside0.mk (KeepAll.refl w g none)
 have HL := Aside0.mk hB.size
 clear hI
 have HW0 := Aside0.mk hB.size
 have HB := Aside0.mk hB
 clear hB
 have H : ((impl_flow_edge.f k s0_0 s0_1 s0_2 a1 a2).bind fun bt253 => (if bt253.1 ≥ 0 then (if 0 ≤ bt253.1 then (if bt253.1 < (s0_2.length : Int) then (some (((rd s0_2 bt253.1) != bt253.2.1), bt253.2.2)) else (none)) else (none)) else (some (false, bt253.2.2)))) = some (r1, r2) := h
 clear h
 replace H := Option.bind_eq_some_iff.mp H
 obtain ⟨⟨t253, t254, t255⟩, A40, H⟩ := H
 replace H : (if t253 ≥ 0 then (if 0 ≤ t253 then (if t253 < (s0_2.length : Int) then (some (((rd s0_2 t253) != t254), t255)) else (none)) else (none)) else (some (false, t255))) = some (r1, r2) := H
 have A4 := Aside0.mk A40
 clear A40
 by_cases c5 : t253 ≥ 0
 rotate_left
 ·rw [if_neg c5] at H
  have c5b0 : decide (0 ≤ t253) = false := decide_eq_false c5
  clear c5
  simp only [Option.some.injEq, Prod.mk.injEq] at H
  obtain ⟨rfl, rfl⟩ := H
  go_enter Try.func107, Try.ntmps107
  go_wp2_with (first | ((with_reducible refine gate_dst (N := 13) rfl ?_); refine goesL_ (some 13) rfl rfl Try.func121 (by kernel_rfl) rfl #[.pointer (some ⟨g, 0, none⟩), .int .i64 a1, .int .i64 a2] rfl tm_ ?_; (with_reducible refine (impl_flow_edge.calls k g s0_0 s0_1 s0_2 a1 a2 t253 t254 t255 w0 _ ?side1 ?side2 A4.out).mono ?_); (case side1 => repeat (first | (with_reducible first | exact HI0.out | apply IsS109.alloc | apply IsS109.drewN | apply IsS109.drew | apply IsS109.set_0) | exact HI0.out)); (case side2 => repeat (first | (with_reducible first | exact HB.out | apply below_alloc | apply pw_below_drewN | apply below_drew1 | refine below_set ?_ (IsS109.ge HI0.out)) | exact HB.out)); rintro e w10 ⟨rfl, hi, hb, hk⟩; refine ⟨_, rfl, ?_⟩; replace HK := Aside0.mk (KeepAll.trans (by repeat (first | (with_reducible first | exact HK.out | apply keepA_drewN | apply keepA_drew | apply keepA_alloc) | exact HK.out)) hk (.inl rfl)); replace HB := Aside0.mk (hb); replace HI0 := Aside0.mk (hi); clear hb hk hi))
  go_ret
  exact ⟨rt_, by repeat (first | (with_reducible first | exact HI0.out | apply IsS109.alloc | apply IsS109.drewN | apply IsS109.drew | apply IsS109.set_0) | exact HI0.out), by repeat (first | (with_reducible first | exact HB.out | apply below_alloc | apply pw_below_drewN | apply below_drew1 | refine below_set ?_ (IsS109.ge HI0.out)) | exact HB.out), by repeat (first | (with_reducible first | exact HK.out | apply keepA_drewN | apply keepA_drew | apply keepA_alloc) | exact HK.out)⟩
 rw [if_pos c5] at H
 have c5b0 : decide (0 ≤ t253) = true := decide_eq_true c5
 clear c5
 by_cases c6 : 0 ≤ t253
 rotate_left
 ·rw [if_neg c6] at H
  exact absurd H (by simp)
 rw [if_pos c6] at H
 have c6b0 : decide (0 ≤ t253) = true := decide_eq_true c6
 clear c6
 by_cases c7 : t253 < (s0_2.length : Int)
 rotate_left
 ·rw [if_neg c7] at H
  exact absurd H (by simp)
 rw [if_pos c7] at H
 have c7b0 : decide (t253 < (s0_2.length : Int)) = true := decide_eq_true c7
 clear c7
 simp only [Option.some.injEq, Prod.mk.injEq] at H
 obtain ⟨rfl, rfl⟩ := H
 go_enter Try.func107, Try.ntmps107
 go_wp2_with (first | ((with_reducible refine gate_dst (N := 13) rfl ?_); refine goesL_ (some 13) rfl rfl Try.func121 (by kernel_rfl) rfl #[.pointer (some ⟨g, 0, none⟩), .int .i64 a1, .int .i64 a2] rfl tm_ ?_; (with_reducible refine (impl_flow_edge.calls k g s0_0 s0_1 s0_2 a1 a2 t253 t254 t255 w0 _ ?side1 ?side2 A4.out).mono ?_); (case side1 => repeat (first | (with_reducible first | exact HI0.out | apply IsS109.alloc | apply IsS109.drewN | apply IsS109.drew | apply IsS109.set_0) | exact HI0.out)); (case side2 => repeat (first | (with_reducible first | exact HB.out | apply below_alloc | apply pw_below_drewN | apply below_drew1 | refine below_set ?_ (IsS109.ge HI0.out)) | exact HB.out)); rintro e w8 ⟨rfl, hi, hb, hk⟩; refine ⟨_, rfl, ?_⟩; replace HK := Aside0.mk (KeepAll.trans (by repeat (first | (with_reducible first | exact HK.out | apply keepA_drewN | apply keepA_drew | apply keepA_alloc) | exact HK.out)) hk (.inl rfl)); replace HB := Aside0.mk (hb); replace HI0 := Aside0.mk (hi); clear hb hk hi; obtain ⟨ASz9_1, cSz9_1, ASz9_2, cSz9_2, HGz9, hgz9, HSz9_1, HSz9_2⟩ := HI0.out; have hcz9_0 := cellS109_0 HGz9; have hcz9_1 := cellS109_1 HGz9; have hcz9_2 := cellS109_2 HGz9; have hfz9_0 := blk_frozen HGz9 0; clear HGz9 hgz9; have p256 : 0 ≤ (t253 : Int) := od_; have q256 : t253 < (s0_2.length : Int) := od_; obtain ⟨ad256, e256, hx256_0⟩ := Kd.at_int HSz9_2 t253 p256 q256; cases e256; replace hx256_0 := pw_cell_below HB.out hx256_0; replace p256 := eq_true p256; replace q256 := eq_true q256))
 go_ret
 exact ⟨rt_, by repeat (first | (with_reducible first | exact HI0.out | apply IsS109.alloc | apply IsS109.drewN | apply IsS109.drew | apply IsS109.set_0) | exact HI0.out), by repeat (first | (with_reducible first | exact HB.out | apply below_alloc | apply pw_below_drewN | apply below_drew1 | refine below_set ?_ (IsS109.ge HI0.out)) | exact HB.out), by repeat (first | (with_reducible first | exact HK.out | apply keepA_drewN | apply keepA_drew | apply keepA_alloc) | exact HK.out)⟩

end Go.Proofs.Ythambdfgkfkcmaa.P
