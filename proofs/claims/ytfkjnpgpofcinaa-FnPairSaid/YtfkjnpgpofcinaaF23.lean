import Derived.Test.YtfkjnpgpofcinaaF0
namespace Go.Proofs.Ytfkjnpgpofcinaa.P
open Go.RowKit Go.Proofs.YtfkjnpgpofcinaaW.PrintWords Go.Proofs.YtfkjnpgpofcinaaW.PrintLast Go.Proofs.YtfkjnpgpofcinaaW.PrintMore
attribute [local go_sem] max2_int min2_int max_two min_two max_three min_three max_four min_four   -- for this text's walks alone
set_option linter.unusedVariables false
set_option linter.unusedSimpArgs false
attribute [local go_sem high] eqA45 eqA76 eqA83

def spec_l3Own.f (l0_0 : List Int) (l0_1 : List Int) (l0_2 : List (S45)) : Option (List Int × List Int × (List (S45))) := (some (([] : List Int) : List Int)).bind fun y542 => (if y542.length + l0_0.length < 17592186044416 then ((some (([] : List Int) : List Int)).bind fun y548 => (if y548.length + l0_1.length < 17592186044416 then ((some (([] : List (S45)) : List (S45))).bind fun y554 => (if y554.length + l0_2.length < 8796093022208 then (some ((y542 ++ l0_0), (y548 ++ l0_1), (y554 ++ l0_2))) else (none))) else (none))) else (none))
def spec_l3Own.T1 : Bool × List (List Nat × List Nat) := (true, [([], []), ([], []), ([1], [1]), ([0, 2], [0, 2]), ([], []), ([], []), ([5], [5]), ([4, 6, 3], [4, 6]), ([], []), ([], []), ([9], [9]), ([8, 10, 7], [8, 10]), ([3, 7, 11], [3, 7, 11]), ([12, 11, 0, 1, 2, 3, 4, 5, 6, 7, 8, 9, 10, 11, 12], [12])])
def spec_l3Own.B1 : List Nat := [0, 0, 2, 7, 0, 0, 32, 127, 0, 0, 512, 2047, 4095, 8191]
theorem spec_l3Own.tab1 : rtab .any (opsOf Try.f88 1) = spec_l3Own.T1 := by kernel_rfl
theorem spec_l3Own.bits1 : waitsOk spec_l3Own.T1.2 spec_l3Own.B1 = true := by kernel_rfl
set_option maxHeartbeats 8000000 in
set_option maxRecDepth 100000 in
theorem spec_l3Own.calls (A0_0 : Option Addr) (c0_0 : Nat) (l0_0 : List Int) (A0_1 : Option Addr) (c0_1 : Nat) (l0_1 : List Int) (A0_2 : Option Addr) (c0_2 : Nat) (l0_2 : List (S45)) (r1 : List Int) (r2 : List Int) (r3 : List (S45)) (w : World) (hr0_0 : Kd.C (Kd.int .i64) w A0_0 l0_0.length l0_0) (hc0_0 : l0_0.length ≤ c0_0) (hr0_1 : Kd.C (Kd.int .i64) w A0_1 l0_1.length l0_1) (hc0_1 : l0_1.length ≤ c0_1) (hr0_2 : Kd.C k45 w A0_2 l0_2.length l0_2) (hc0_2 : l0_2.length ≤ c0_2) (h : spec_l3Own.f l0_0 l0_1 l0_2 = some (r1, r2, r3)) :
  Calls Try.prog 88 #[.agg #[.slice A0_0 l0_0.length c0_0, .slice A0_1 l0_1.length c0_1, .slice A0_2 l0_2.length c0_2]] w fun e w' => ∃ v0_ v1_ v2_ : Value, e = .returned (.agg #[v0_, v1_, v2_]) ∧ Kd.R (Kd.int .i64) 3 w' w.heap.size (fun k_ => no_ v1_ k_) v0_ r1 ∧ Kd.R (Kd.int .i64) 3 w' w.heap.size (fun k_ => no_ v0_ k_) v1_ r2 ∧ Kd.R k45 45 w' w.heap.size (fun _ => True) v2_ r3 ∧ Below w.heap.size w w' := by
 have hu35 := Try.underlying35
 have HR0_0 := Aside0.mk hr0_0
 have HC0_0 := Aside0.mk hc0_0
 clear hr0_0 hc0_0
 have HR0_1 := Aside0.mk hr0_1
 have HC0_1 := Aside0.mk hc0_1
 clear hr0_1 hc0_1
 have HR0_2 := Aside0.mk hr0_2
 have HC0_2 := Aside0.mk hc0_2
 clear hr0_2 hc0_2
 have HB := Aside0.mk (Below.refl w.heap.size w)
 have H : ((some (([] : List Int) : List Int)).bind fun y542 => (if y542.length + l0_0.length < 17592186044416 then ((some (([] : List Int) : List Int)).bind fun y548 => (if y548.length + l0_1.length < 17592186044416 then ((some (([] : List (S45)) : List (S45))).bind fun y554 => (if y554.length + l0_2.length < 8796093022208 then (some ((y542 ++ l0_0), (y548 ++ l0_1), (y554 ++ l0_2))) else (none))) else (none))) else (none))) = some (r1, r2, r3) := h
 clear h
 obtain ⟨y542, hy542⟩ : ∃ y_ : List Int, y_ = (([] : List Int)) := ⟨_, rfl⟩
 replace H : (if y542.length + l0_0.length < 17592186044416 then ((some (([] : List Int) : List Int)).bind fun y548 => (if y548.length + l0_1.length < 17592186044416 then ((some (([] : List (S45)) : List (S45))).bind fun y554 => (if y554.length + l0_2.length < 8796093022208 then (some ((y542 ++ l0_0), (y548 ++ l0_1), (y554 ++ l0_2))) else (none))) else (none))) else (none)) = some (r1, r2, r3) := by first | (rw [hy542]; with_reducible exact H) | (have H2_ := (Option.bind_some _ _).symm.trans H; rw [hy542]; with_reducible exact H2_) | (have H2_ := (Option.bind_some _ _).symm.trans H; with_reducible exact H2_) | with_reducible exact H | (rw [hy542]; exact H) | exact H
 have Ny542 := Aside0.mk hy542
 clear hy542
 by_cases c2 : y542.length + l0_0.length < 17592186044416
 rotate_left
 ·rw [if_neg c2] at H
  exact absurd H (by simp)
 rw [if_pos c2] at H
 have LMc2 := Aside0.mk c2
 clear c2
 obtain ⟨y545, hy545⟩ : ∃ y_ : List Int, y_ = (y542 ++ l0_0) := ⟨_, rfl⟩
 replace H : ((some (([] : List Int) : List Int)).bind fun y548 => (if y548.length + l0_1.length < 17592186044416 then ((some (([] : List (S45)) : List (S45))).bind fun y554 => (if y554.length + l0_2.length < 8796093022208 then (some (y545, (y548 ++ l0_1), (y554 ++ l0_2))) else (none))) else (none))) = some (r1, r2, r3) := by first | (rw [hy545]; with_reducible exact H) | (have H2_ := (Option.bind_some _ _).symm.trans H; rw [hy545]; with_reducible exact H2_) | (have H2_ := (Option.bind_some _ _).symm.trans H; with_reducible exact H2_) | with_reducible exact H | (rw [hy545]; exact H) | exact H
 have Ny545 := Aside0.mk hy545
 clear hy545
 obtain ⟨y548, hy548⟩ : ∃ y_ : List Int, y_ = (([] : List Int)) := ⟨_, rfl⟩
 replace H : (if y548.length + l0_1.length < 17592186044416 then ((some (([] : List (S45)) : List (S45))).bind fun y554 => (if y554.length + l0_2.length < 8796093022208 then (some (y545, (y548 ++ l0_1), (y554 ++ l0_2))) else (none))) else (none)) = some (r1, r2, r3) := by first | (rw [hy548]; with_reducible exact H) | (have H2_ := (Option.bind_some _ _).symm.trans H; rw [hy548]; with_reducible exact H2_) | (have H2_ := (Option.bind_some _ _).symm.trans H; with_reducible exact H2_) | with_reducible exact H | (rw [hy548]; exact H) | exact H
 have Ny548 := Aside0.mk hy548
 clear hy548
 by_cases c3 : y548.length + l0_1.length < 17592186044416
 rotate_left
 ·rw [if_neg c3] at H
  exact absurd H (by simp)
 rw [if_pos c3] at H
 have LMc3 := Aside0.mk c3
 clear c3
 obtain ⟨y551, hy551⟩ : ∃ y_ : List Int, y_ = (y548 ++ l0_1) := ⟨_, rfl⟩
 replace H : ((some (([] : List (S45)) : List (S45))).bind fun y554 => (if y554.length + l0_2.length < 8796093022208 then (some (y545, y551, (y554 ++ l0_2))) else (none))) = some (r1, r2, r3) := by first | (rw [hy551]; with_reducible exact H) | (have H2_ := (Option.bind_some _ _).symm.trans H; rw [hy551]; with_reducible exact H2_) | (have H2_ := (Option.bind_some _ _).symm.trans H; with_reducible exact H2_) | with_reducible exact H | (rw [hy551]; exact H) | exact H
 have Ny551 := Aside0.mk hy551
 clear hy551
 obtain ⟨y554, hy554⟩ : ∃ y_ : List (S45), y_ = (([] : List (S45))) := ⟨_, rfl⟩
 replace H : (if y554.length + l0_2.length < 8796093022208 then (some (y545, y551, (y554 ++ l0_2))) else (none)) = some (r1, r2, r3) := by first | (rw [hy554]; with_reducible exact H) | (have H2_ := (Option.bind_some _ _).symm.trans H; rw [hy554]; with_reducible exact H2_) | (have H2_ := (Option.bind_some _ _).symm.trans H; with_reducible exact H2_) | with_reducible exact H | (rw [hy554]; exact H) | exact H
 have Ny554 := Aside0.mk hy554
 clear hy554
 by_cases c4 : y554.length + l0_2.length < 8796093022208
 rotate_left
 ·rw [if_neg c4] at H
  exact absurd H (by simp)
 rw [if_pos c4] at H
 have LMc4 := Aside0.mk c4
 clear c4
 obtain ⟨y557, hy557⟩ : ∃ y_ : List (S45), y_ = (y554 ++ l0_2) := ⟨_, rfl⟩
 replace H : (some (y545, y551, y557)) = some (r1, r2, r3) := by first | (rw [hy557]; with_reducible exact H) | (have H2_ := (Option.bind_some _ _).symm.trans H; rw [hy557]; with_reducible exact H2_) | (have H2_ := (Option.bind_some _ _).symm.trans H; with_reducible exact H2_) | with_reducible exact H | (rw [hy557]; exact H) | exact H
 have Ny557 := Aside0.mk hy557
 clear hy557
 simp only [Option.some.injEq, Prod.mk.injEq] at H
 obtain ⟨rfl, rfl, rfl⟩ := H
 go_enter Try.func88, Try.ntmps88
 try go_wp2_with (first | ((with_reducible refine gate_dst (N := 1) rfl ?_); refine box_event ?hg (N := 1) ?hd (cs := #[.slice A0_0 l0_0.length c0_0, .slice A0_1 l0_1.length c0_1, .slice A0_2 l0_2.length c0_2]) (t := 35) ?hr ?_; (case hd => rfl); (case hg => rfl); (case hr => first | (go_simp; done) | (go_simp; rfl)); intro gb540 hg w5 hbox hb; have BK540 := Aside0.mk (hbox); have GW540 := gw_ hg HB; have GE540 := gw_ hg HB; replace HB := bst_ HB hb; clear hb hbox hg) | ((with_reducible refine gate_dst (N := 2) rfl ?_); refine box_event ?hg (N := 2) ?hd (cs := #[.slice none 0 0, .slice none 0 0, .slice none 0 0]) (t := 35) ?hr ?_; (case hd => rfl); (case hg => rfl); (case hr => first | (go_simp; done) | (go_simp; rfl)); intro gb541 hg w6 hbox hb; have BK541 := Aside0.mk (hbox); have GW541 := gw_ hg HB; have GE541 := gw_ hg HB; have NB540_541 := nl_ hg BK540; have NB541_540 := ng_ hg BK540; replace BK540 := bb_ BK540 hb; replace HB := bst_ HB hb; clear hb hbox hg))
 replace BK540 := bd_ BK540
 replace BK541 := bd_ BK541
 replace HB := Aside0.mk (below_drew1 HB.out)
 refine start_ (n := 14) (S := fun w' => w'.cell? ⟨gb540, 0, none⟩ = some (.slice A0_0 l0_0.length c0_0) ∧ w'.cell? ⟨gb540, 1, none⟩ = some (.slice A0_1 l0_1.length c0_1) ∧ w'.cell? ⟨gb540, 2, none⟩ = some (.slice A0_2 l0_2.length c0_2)) (ds := []) (bs 14 0) (by kernel_rfl) rfl rfl ⟨bc_ BK540 0, bc_ BK540 1, bc_ BK540 2⟩ (fun hHeld => ?_); refine with_tabW spec_l3Own.tab1 spec_l3Own.bits1 (fun HT_ HW_ => ?_)
 generalize w6.drew = w7 at BK540 BK541 HB hHeld ⊢
 refine pu_ 1 4 (bs 14 2) HT_ ?_
 refine pu_ 5 8 (bs 14 34) HT_ ?_
 refine pu_ 9 12 (bs 14 546) HT_ ?_
 refine tk_ 2 5 (bs 14 550) HT_ HW_ hHeld ?_
 refine tk_ 6 9 (bs 14 614) HT_ HW_ hHeld ?_
 refine tk_ 10 13 (bs 14 1638) HT_ HW_ hHeld ?_
 refine join_ (σ := Value × Value × Value × Value × Value) 3 (bs 14 2047) (fun s_ => [(3, s_.1), (6, s_.2.1), (7, s_.2.2.1), (10, s_.2.2.2.1), (11, s_.2.2.2.2)]) (fun s_ w' => (w'.cell? ⟨gb540, 0, none⟩ = some (.slice A0_0 l0_0.length c0_0) ∧ w'.cell? ⟨gb540, 1, none⟩ = some (.slice A0_1 l0_1.length c0_1) ∧ w'.cell? ⟨gb540, 2, none⟩ = some (.slice A0_2 l0_2.length c0_2)) ∧ (Kd.R (Kd.int .i64) 3 w' w.heap.size (fun k_ => no_ s_.2.2.2.1 k_) s_.2.1 y545) ∧ (Kd.R (Kd.int .i64) 3 w' w.heap.size (fun k_ => no_ s_.2.1 k_) s_.2.2.2.1 y551) ∧ (Kd.R k45 45 w' w.heap.size (fun _ => True) s_.2.2.2.2 y554) ∧ (w'.heap[gb540]? = some (.cells #[.slice A0_0 l0_0.length c0_0, .slice A0_1 l0_1.length c0_1, .slice A0_2 l0_2.length c0_2] 35 (0, 0))) ∧ (w'.heap[gb541]? = some (.cells #[.slice none 0 0, .slice none 0 0, .slice none 0 0] 35 (0, 0))) ∧ (Below w.heap.size w w')) ?_ ?_
 rotate_left
 ·intro hJ0_3_4_7_8
  refine join_ (σ := Value × Value × Value × Value) 4 (bs 14 1791) (fun s_ => [(3, s_.1), (6, s_.2.1), (7, s_.2.2.1), (10, s_.2.2.2)]) (fun s_ w' => (w'.cell? ⟨gb540, 0, none⟩ = some (.slice A0_0 l0_0.length c0_0) ∧ w'.cell? ⟨gb540, 1, none⟩ = some (.slice A0_1 l0_1.length c0_1) ∧ w'.cell? ⟨gb540, 2, none⟩ = some (.slice A0_2 l0_2.length c0_2)) ∧ (Kd.R (Kd.int .i64) 3 w' w.heap.size (fun k_ => no_ s_.2.2.2 k_) s_.2.1 y545) ∧ (Kd.R (Kd.int .i64) 3 w' w.heap.size (fun k_ => no_ s_.2.1 k_) s_.2.2.2 y551) ∧ (w'.heap[gb540]? = some (.cells #[.slice A0_0 l0_0.length c0_0, .slice A0_1 l0_1.length c0_1, .slice A0_2 l0_2.length c0_2] 35 (0, 0))) ∧ (w'.heap[gb541]? = some (.cells #[.slice none 0 0, .slice none 0 0, .slice none 0 0] 35 (0, 0))) ∧ (Below w.heap.size w w')) ?_ ?_
  rotate_left
  rotate_left
  ·skip
   rintro ⟨v543, v546, v549, v552⟩ w14 ⟨hS_, h0_, h1_, h2_, h3_, h4_⟩
   try dsimp only at h0_ h1_ h2_ h3_ h4_
   have HO547 := Aside0.mk h0_
   have HO553 := Aside0.mk h1_
   replace BK540 := Aside0.mk h2_
   replace BK541 := Aside0.mk h3_
   replace HB := Aside0.mk h4_
   clear h0_ h1_ h2_ h3_ h4_
   have hHeld : w14.cell? ⟨gb540, 0, none⟩ = some (.slice A0_0 l0_0.length c0_0) ∧ w14.cell? ⟨gb540, 1, none⟩ = some (.slice A0_1 l0_1.length c0_1) ∧ w14.cell? ⟨gb540, 2, none⟩ = some (.slice A0_2 l0_2.length c0_2) := hS_
   refine norm_ (a' := ?_) ?_ ?_
   rotate_left
   ·simp only [putAll, Act.put, List.setIfInBounds_toArray, List.set_cons_zero, List.set_cons_succ]
    rfl
   refine one_ (i := 8) (N := some 11) (bs 14 2047) rfl rfl (one_of HT_.out (by kernel_rfl)) (by decide) (fun K hK => ?_)
   refine Kd.R_lit_step k45 _ 45 ?hg (N := 11) ?hd (xs := ([] : List (S45))) (inner := []) (ok := fun _ => True) (okp := fun _ => True) ?hr ?hp (fun _ hk => hk) trivial (Below.refl _ _) (Nat.le_refl _) (by simp) ?_; (case hd => rfl); (case hg => rfl); (case hr => first | (go_simp; done) | (go_simp; rfl)); (case hp => exact (Reps.none _ _))
   intro v555 w15 ho16 hb hg_ hnew_
   clear hg_ hnew_
   (first | rw [← Ny554.out] at ho16 | (simp only [Int.reduceToNat] at ho16; rw [← Ny554.out] at ho16))
   have HO556 := Aside0.mk (Kd.R_lower ho16 (below_size (hB HB)))
   replace HO547 := rb_ HO547 hb
   replace HO553 := rb_ HO553 hb
   replace BK540 := bb_ BK540 hb
   replace BK541 := bb_ BK541 hb
   replace HB := bst_ HB hb
   clear hb ho16
   refine hK.out _ _ ⟨bc_ BK540 0, bc_ BK540 1, bc_ BK540 2⟩ (fun hHeld => ?_)
   clear hK K
   refine nm_ 11 ?_
   exact norm_ (by first | (simp only [putAll, Act.put, List.setIfInBounds_toArray, List.set_cons_zero, List.set_cons_succ]; done) | (simp only [putAll, Act.put, List.setIfInBounds_toArray, List.set_cons_zero, List.set_cons_succ]; rfl)) (hJ0_3_4_7_8 (v543, v546, v549, v552, v555) _ ⟨hHeld, (ra HO547.out), (ra HO553.out), (ra HO556.out), (ba BK540.out), (ba BK541.out), (hB HB)⟩)
  intro hJ0_3_4_7
  refine join_ (σ := Value × Value × Value × Value) 4 (bs 14 1919) (fun s_ => [(3, s_.1), (6, s_.2.1), (7, s_.2.2.1), (11, s_.2.2.2)]) (fun s_ w' => (w'.cell? ⟨gb540, 0, none⟩ = some (.slice A0_0 l0_0.length c0_0) ∧ w'.cell? ⟨gb540, 1, none⟩ = some (.slice A0_1 l0_1.length c0_1) ∧ w'.cell? ⟨gb540, 2, none⟩ = some (.slice A0_2 l0_2.length c0_2)) ∧ (Kd.R (Kd.int .i64) 3 w' w.heap.size (fun k_ => no_ s_.2.2.1 k_) s_.2.1 y545) ∧ (Kd.R (Kd.int .i64) 3 w' w.heap.size (fun k_ => no_ s_.2.1 k_) s_.2.2.1 y548) ∧ (Kd.R k45 45 w' w.heap.size (fun _ => True) s_.2.2.2 y554) ∧ (w'.heap[gb540]? = some (.cells #[.slice A0_0 l0_0.length c0_0, .slice A0_1 l0_1.length c0_1, .slice A0_2 l0_2.length c0_2] 35 (0, 0))) ∧ (w'.heap[gb541]? = some (.cells #[.slice none 0 0, .slice none 0 0, .slice none 0 0] 35 (0, 0))) ∧ (Below w.heap.size w w')) ?_ ?_
  rotate_left
  rotate_left
  ·skip
   rintro ⟨v543, v546, v549, v555⟩ w15 ⟨hS_, h0_, h1_, h2_, h3_, h4_, h5_⟩
   try dsimp only at h0_ h1_ h2_ h3_ h4_ h5_
   have HO547 := Aside0.mk h0_
   have HO550 := Aside0.mk h1_
   have HO556 := Aside0.mk h2_
   replace BK540 := Aside0.mk h3_
   replace BK541 := Aside0.mk h4_
   replace HB := Aside0.mk h5_
   clear h0_ h1_ h2_ h3_ h4_ h5_
   have hHeld : w15.cell? ⟨gb540, 0, none⟩ = some (.slice A0_0 l0_0.length c0_0) ∧ w15.cell? ⟨gb540, 1, none⟩ = some (.slice A0_1 l0_1.length c0_1) ∧ w15.cell? ⟨gb540, 2, none⟩ = some (.slice A0_2 l0_2.length c0_2) := hS_
   refine norm_ (a' := ?_) ?_ ?_
   rotate_left
   ·simp only [putAll, Act.put, List.setIfInBounds_toArray, List.set_cons_zero, List.set_cons_succ]
    rfl
   refine one_ (i := 7) (N := some 10) (bs 14 2047) rfl rfl (one_of HT_.out (by kernel_rfl)) (by decide) (fun K hK => ?_)
   refine Kd.R_append_rows_step (Kd.int .i64) (w0 := w) w.heap.size (by rfl) (.tmp 7) (.tmp 9) 22 3 (.int .i64 0) 8 rfl Try.underlying22 info3 rfl (by decide) (by omega) v549 y548 l0_1 _ _ _ (fun k_ => no_ v546 k_) (fun _ => False) rfl rfl ?aO ?aR (fun _ _ h => h) (fun _ h => h.elim) ?aF ?aB ?aS ?aL ?_
   (case aR => exact ca (Kd.C_below HR0_1.out HB.out))
   (case aB => exact (hB HB))
   (case aF => exact (fun k_ hk => Kd.fresh' (rl_ HO547) k_ hk))
   (case aO => exact (ra HO550.out))
   (case aS => exact (below_size (hB HB)))
   (case aL => have := LMc3.out; omega)
   intro v552 w16 ho hb hg hat
   rw [← Ny551.out] at ho
   have HO553 := Aside0.mk (ho)
   replace BK540 := Aside0.mk (blk_grown (g := gb540) (o := .cells #[.slice A0_0 l0_0.length c0_0, .slice A0_1 l0_1.length c0_1, .slice A0_2 l0_2.length c0_2] 35 (0, 0)) (ba BK540.out) hg (Kd.R_ne HO550.out BK540.out (by decide)))
   replace BK541 := Aside0.mk (blk_grown (g := gb541) (o := .cells #[.slice none 0 0, .slice none 0 0, .slice none 0 0] 35 (0, 0)) (ba BK541.out) hg (Kd.R_ne HO550.out BK541.out (by decide)))
   replace HO547 := Aside0.mk (Kd.R_after (ok := (fun _ => True)) (rm_ HO547 (fun _ hk => ⟨trivial, hk⟩)).out hg hat)
   replace HO556 := Aside0.mk (Kd.R_over' (ra HO556.out) (Kd.R_typed (ra HO550.out)) (by decide) hg)
   replace HB := Aside0.mk (hb)
   clear HO550
   clear ho hb hg hat
   refine hK.out _ _ ⟨bc_ BK540 0, bc_ BK540 1, bc_ BK540 2⟩ (fun hHeld => ?_)
   clear hK K
   refine nm_ 10 ?_
   exact norm_ (by first | (simp only [putAll, Act.put, List.setIfInBounds_toArray, List.set_cons_zero, List.set_cons_succ]; done) | (simp only [putAll, Act.put, List.setIfInBounds_toArray, List.set_cons_zero, List.set_cons_succ]; rfl)) (hJ0_3_4_7_8 (v543, v546, v549, v552, v555) _ ⟨hHeld, (rm_ HO547 (fun _ hk => hk.2)).out, (ra HO553.out), (ra HO556.out), (ba BK540.out), (ba BK541.out), (hB HB)⟩)
  intro hJ0_3_4_8
  refine join_ (σ := Value × Value × Value) 5 (bs 14 1663) (fun s_ => [(3, s_.1), (6, s_.2.1), (7, s_.2.2)]) (fun s_ w' => (w'.cell? ⟨gb540, 0, none⟩ = some (.slice A0_0 l0_0.length c0_0) ∧ w'.cell? ⟨gb540, 1, none⟩ = some (.slice A0_1 l0_1.length c0_1) ∧ w'.cell? ⟨gb540, 2, none⟩ = some (.slice A0_2 l0_2.length c0_2)) ∧ (Kd.R (Kd.int .i64) 3 w' w.heap.size (fun k_ => no_ s_.2.2 k_) s_.2.1 y545) ∧ (Kd.R (Kd.int .i64) 3 w' w.heap.size (fun k_ => no_ s_.2.1 k_) s_.2.2 y548) ∧ (w'.heap[gb540]? = some (.cells #[.slice A0_0 l0_0.length c0_0, .slice A0_1 l0_1.length c0_1, .slice A0_2 l0_2.length c0_2] 35 (0, 0))) ∧ (w'.heap[gb541]? = some (.cells #[.slice none 0 0, .slice none 0 0, .slice none 0 0] 35 (0, 0))) ∧ (Below w.heap.size w w')) ?_ ?_
  rotate_left
  rotate_left
  ·skip
   rintro ⟨v543, v546, v549⟩ w13 ⟨hS_, h0_, h1_, h2_, h3_, h4_⟩
   try dsimp only at h0_ h1_ h2_ h3_ h4_
   have HO547 := Aside0.mk h0_
   have HO550 := Aside0.mk h1_
   replace BK540 := Aside0.mk h2_
   replace BK541 := Aside0.mk h3_
   replace HB := Aside0.mk h4_
   clear h0_ h1_ h2_ h3_ h4_
   have hHeld : w13.cell? ⟨gb540, 0, none⟩ = some (.slice A0_0 l0_0.length c0_0) ∧ w13.cell? ⟨gb540, 1, none⟩ = some (.slice A0_1 l0_1.length c0_1) ∧ w13.cell? ⟨gb540, 2, none⟩ = some (.slice A0_2 l0_2.length c0_2) := hS_
   refine norm_ (a' := ?_) ?_ ?_
   rotate_left
   ·simp only [putAll, Act.put, List.setIfInBounds_toArray, List.set_cons_zero, List.set_cons_succ]
    rfl
   refine two_ (i := 7) (j := 8) (Ni := some 10) (Nj := some 11) (bs 14 1791) (bs 14 1919) rfl rfl rfl rfl (two_of HT_.out (by kernel_rfl)) (by decide) (by decide) (fun K hK => ?_) (fun K hK => ?_)
   rotate_left
   ·skip
    refine Kd.R_lit_step k45 _ 45 ?hg (N := 11) ?hd (xs := ([] : List (S45))) (inner := []) (ok := fun _ => True) (okp := fun _ => True) ?hr ?hp (fun _ hk => hk) trivial (Below.refl _ _) (Nat.le_refl _) (by simp) ?_; (case hd => rfl); (case hg => rfl); (case hr => first | (go_simp; done) | (go_simp; rfl)); (case hp => exact (Reps.none _ _))
    intro v555 w14 ho15 hb hg_ hnew_
    clear hg_ hnew_
    (first | rw [← Ny554.out] at ho15 | (simp only [Int.reduceToNat] at ho15; rw [← Ny554.out] at ho15))
    have HO556 := Aside0.mk (Kd.R_lower ho15 (below_size (hB HB)))
    replace HO547 := rb_ HO547 hb
    replace HO550 := rb_ HO550 hb
    replace BK540 := bb_ BK540 hb
    replace BK541 := bb_ BK541 hb
    replace HB := bst_ HB hb
    clear hb ho15
    refine hK.out _ _ ⟨bc_ BK540 0, bc_ BK540 1, bc_ BK540 2⟩ (fun hHeld => ?_)
    clear hK K
    refine nm_ 11 ?_
    exact norm_ (by first | (simp only [putAll, Act.put, List.setIfInBounds_toArray, List.set_cons_zero, List.set_cons_succ]; done) | (simp only [putAll, Act.put, List.setIfInBounds_toArray, List.set_cons_zero, List.set_cons_succ]; rfl)) (hJ0_3_4_8 (v543, v546, v549, v555) _ ⟨hHeld, (ra HO547.out), (ra HO550.out), (ra HO556.out), (ba BK540.out), (ba BK541.out), (hB HB)⟩)
   skip
   refine Kd.R_append_rows_step (Kd.int .i64) (w0 := w) w.heap.size (by rfl) (.tmp 7) (.tmp 9) 22 3 (.int .i64 0) 8 rfl Try.underlying22 info3 rfl (by decide) (by omega) v549 y548 l0_1 _ _ _ (fun k_ => no_ v546 k_) (fun _ => False) rfl rfl ?aO ?aR (fun _ _ h => h) (fun _ h => h.elim) ?aF ?aB ?aS ?aL ?_
   (case aR => exact ca (Kd.C_below HR0_1.out HB.out))
   (case aB => exact (hB HB))
   (case aF => exact (fun k_ hk => Kd.fresh' (rl_ HO547) k_ hk))
   (case aO => exact (ra HO550.out))
   (case aS => exact (below_size (hB HB)))
   (case aL => have := LMc3.out; omega)
   intro v552 w14 ho hb hg hat
   rw [← Ny551.out] at ho
   have HO553 := Aside0.mk (ho)
   replace BK540 := Aside0.mk (blk_grown (g := gb540) (o := .cells #[.slice A0_0 l0_0.length c0_0, .slice A0_1 l0_1.length c0_1, .slice A0_2 l0_2.length c0_2] 35 (0, 0)) (ba BK540.out) hg (Kd.R_ne HO550.out BK540.out (by decide)))
   replace BK541 := Aside0.mk (blk_grown (g := gb541) (o := .cells #[.slice none 0 0, .slice none 0 0, .slice none 0 0] 35 (0, 0)) (ba BK541.out) hg (Kd.R_ne HO550.out BK541.out (by decide)))
   replace HO547 := Aside0.mk (Kd.R_after (ok := (fun _ => True)) (rm_ HO547 (fun _ hk => ⟨trivial, hk⟩)).out hg hat)
   replace HB := Aside0.mk (hb)
   clear HO550
   clear ho hb hg hat
   refine hK.out _ _ ⟨bc_ BK540 0, bc_ BK540 1, bc_ BK540 2⟩ (fun hHeld => ?_)
   clear hK K
   refine nm_ 10 ?_
   exact norm_ (by first | (simp only [putAll, Act.put, List.setIfInBounds_toArray, List.set_cons_zero, List.set_cons_succ]; done) | (simp only [putAll, Act.put, List.setIfInBounds_toArray, List.set_cons_zero, List.set_cons_succ]; rfl)) (hJ0_3_4_7 (v543, v546, v549, v552) _ ⟨hHeld, (rm_ HO547 (fun _ hk => hk.2)).out, (ra HO553.out), (ba BK540.out), (ba BK541.out), (hB HB)⟩)
  intro hJ0_3_4
  refine join_ (σ := Value × Value × Value) 5 (bs 14 1903) (fun s_ => [(3, s_.1), (6, s_.2.1), (11, s_.2.2)]) (fun s_ w' => (w'.cell? ⟨gb540, 0, none⟩ = some (.slice A0_0 l0_0.length c0_0) ∧ w'.cell? ⟨gb540, 1, none⟩ = some (.slice A0_1 l0_1.length c0_1) ∧ w'.cell? ⟨gb540, 2, none⟩ = some (.slice A0_2 l0_2.length c0_2)) ∧ (Kd.R (Kd.int .i64) 3 w' w.heap.size (fun _ => True) s_.2.1 y545) ∧ (Kd.R k45 45 w' w.heap.size (fun _ => True) s_.2.2 y554) ∧ (w'.heap[gb540]? = some (.cells #[.slice A0_0 l0_0.length c0_0, .slice A0_1 l0_1.length c0_1, .slice A0_2 l0_2.length c0_2] 35 (0, 0))) ∧ (w'.heap[gb541]? = some (.cells #[.slice none 0 0, .slice none 0 0, .slice none 0 0] 35 (0, 0))) ∧ (Below w.heap.size w w')) ?_ ?_
  rotate_left
  rotate_left
  ·skip
   rintro ⟨v543, v546, v555⟩ w13 ⟨hS_, h0_, h1_, h2_, h3_, h4_⟩
   try dsimp only at h0_ h1_ h2_ h3_ h4_
   have HO547 := Aside0.mk h0_
   have HO556 := Aside0.mk h1_
   replace BK540 := Aside0.mk h2_
   replace BK541 := Aside0.mk h3_
   replace HB := Aside0.mk h4_
   clear h0_ h1_ h2_ h3_ h4_
   have hHeld : w13.cell? ⟨gb540, 0, none⟩ = some (.slice A0_0 l0_0.length c0_0) ∧ w13.cell? ⟨gb540, 1, none⟩ = some (.slice A0_1 l0_1.length c0_1) ∧ w13.cell? ⟨gb540, 2, none⟩ = some (.slice A0_2 l0_2.length c0_2) := hS_
   refine norm_ (a' := ?_) ?_ ?_
   rotate_left
   ·simp only [putAll, Act.put, List.setIfInBounds_toArray, List.set_cons_zero, List.set_cons_succ]
    rfl
   refine one_ (i := 4) (N := some 7) (bs 14 1919) rfl rfl (one_of HT_.out (by kernel_rfl)) (by decide) (fun K hK => ?_)
   refine Kd.R_lit_step (Kd.int .i64) _ 3 ?hg (N := 7) ?hd (xs := ([] : List Int)) (inner := []) (ok := fun _ => True) (okp := fun _ => True) ?hr ?hp (fun _ hk => hk) trivial (Below.refl _ _) (Nat.le_refl _) (by simp) ?_; (case hd => rfl); (case hg => rfl); (case hr => first | (go_simp; done) | (go_simp; rfl)); (case hp => exact (Reps.none _ _))
   intro v549 w14 ho15 hb hg_ hnew_
   clear hg_ hnew_
   (first | rw [← Ny548.out] at ho15 | (simp only [Int.reduceToNat] at ho15; rw [← Ny548.out] at ho15))
   have HO550 := Aside0.mk (Kd.R_lower (Kd.R_new' ho15 (rl_ HO547)) (below_size (hB HB)))
   replace HO547 := re_ HO547 ho15 hb
   replace HO556 := rb_ HO556 hb
   replace BK540 := bb_ BK540 hb
   replace BK541 := bb_ BK541 hb
   replace HB := bst_ HB hb
   clear hb ho15
   refine hK.out _ _ ⟨bc_ BK540 0, bc_ BK540 1, bc_ BK540 2⟩ (fun hHeld => ?_)
   clear hK K
   refine nm_ 7 ?_
   exact norm_ (by first | (simp only [putAll, Act.put, List.setIfInBounds_toArray, List.set_cons_zero, List.set_cons_succ]; done) | (simp only [putAll, Act.put, List.setIfInBounds_toArray, List.set_cons_zero, List.set_cons_succ]; rfl)) (hJ0_3_4_8 (v543, v546, v549, v555) _ ⟨hHeld, (rm_ HO547 (fun _ hk => hk.2)).out, (rm_ HO550 (fun _ hk => hk.2)).out, (ra HO556.out), (ba BK540.out), (ba BK541.out), (hB HB)⟩)
  intro hJ0_3_8
  refine join_ (σ := Value × Value × Value) 5 (bs 14 1911) (fun s_ => [(3, s_.1), (7, s_.2.1), (11, s_.2.2)]) (fun s_ w' => (w'.cell? ⟨gb540, 0, none⟩ = some (.slice A0_0 l0_0.length c0_0) ∧ w'.cell? ⟨gb540, 1, none⟩ = some (.slice A0_1 l0_1.length c0_1) ∧ w'.cell? ⟨gb540, 2, none⟩ = some (.slice A0_2 l0_2.length c0_2)) ∧ (Kd.R (Kd.int .i64) 3 w' w.heap.size (fun k_ => no_ s_.2.1 k_) s_.1 y542) ∧ (Kd.R (Kd.int .i64) 3 w' w.heap.size (fun k_ => no_ s_.1 k_) s_.2.1 y548) ∧ (Kd.R k45 45 w' w.heap.size (fun _ => True) s_.2.2 y554) ∧ (w'.heap[gb540]? = some (.cells #[.slice A0_0 l0_0.length c0_0, .slice A0_1 l0_1.length c0_1, .slice A0_2 l0_2.length c0_2] 35 (0, 0))) ∧ (w'.heap[gb541]? = some (.cells #[.slice none 0 0, .slice none 0 0, .slice none 0 0] 35 (0, 0))) ∧ (Below w.heap.size w w')) ?_ ?_
  rotate_left
  rotate_left
  ·skip
   rintro ⟨v543, v549, v555⟩ w14 ⟨hS_, h0_, h1_, h2_, h3_, h4_, h5_⟩
   try dsimp only at h0_ h1_ h2_ h3_ h4_ h5_
   have HO544 := Aside0.mk h0_
   have HO550 := Aside0.mk h1_
   have HO556 := Aside0.mk h2_
   replace BK540 := Aside0.mk h3_
   replace BK541 := Aside0.mk h4_
   replace HB := Aside0.mk h5_
   clear h0_ h1_ h2_ h3_ h4_ h5_
   have hHeld : w14.cell? ⟨gb540, 0, none⟩ = some (.slice A0_0 l0_0.length c0_0) ∧ w14.cell? ⟨gb540, 1, none⟩ = some (.slice A0_1 l0_1.length c0_1) ∧ w14.cell? ⟨gb540, 2, none⟩ = some (.slice A0_2 l0_2.length c0_2) := hS_
   refine norm_ (a' := ?_) ?_ ?_
   rotate_left
   ·simp only [putAll, Act.put, List.setIfInBounds_toArray, List.set_cons_zero, List.set_cons_succ]
    rfl
   refine one_ (i := 3) (N := some 6) (bs 14 1919) rfl rfl (one_of HT_.out (by kernel_rfl)) (by decide) (fun K hK => ?_)
   refine Kd.R_append_rows_step (Kd.int .i64) (w0 := w) w.heap.size (by rfl) (.tmp 3) (.tmp 5) 22 3 (.int .i64 0) 8 rfl Try.underlying22 info3 rfl (by decide) (by omega) v543 y542 l0_0 _ _ _ (fun k_ => no_ v549 k_) (fun _ => False) rfl rfl ?aO ?aR (fun _ _ h => h) (fun _ h => h.elim) ?aF ?aB ?aS ?aL ?_
   (case aR => exact ca (Kd.C_below HR0_0.out HB.out))
   (case aB => exact (hB HB))
   (case aF => exact (fun k_ hk => Kd.fresh' (rl_ HO550) k_ hk))
   (case aO => exact (ra HO544.out))
   (case aS => exact (below_size (hB HB)))
   (case aL => have := LMc2.out; omega)
   intro v546 w15 ho hb hg hat
   rw [← Ny545.out] at ho
   have HO547 := Aside0.mk (ho)
   replace BK540 := Aside0.mk (blk_grown (g := gb540) (o := .cells #[.slice A0_0 l0_0.length c0_0, .slice A0_1 l0_1.length c0_1, .slice A0_2 l0_2.length c0_2] 35 (0, 0)) (ba BK540.out) hg (Kd.R_ne HO544.out BK540.out (by decide)))
   replace BK541 := Aside0.mk (blk_grown (g := gb541) (o := .cells #[.slice none 0 0, .slice none 0 0, .slice none 0 0] 35 (0, 0)) (ba BK541.out) hg (Kd.R_ne HO544.out BK541.out (by decide)))
   replace HO550 := Aside0.mk (Kd.R_after (ok := (fun _ => True)) (rm_ HO550 (fun _ hk => ⟨trivial, hk⟩)).out hg hat)
   replace HO556 := Aside0.mk (Kd.R_over' (ra HO556.out) (Kd.R_typed (ra HO544.out)) (by decide) hg)
   replace HB := Aside0.mk (hb)
   clear HO544
   clear ho hb hg hat
   refine hK.out _ _ ⟨bc_ BK540 0, bc_ BK540 1, bc_ BK540 2⟩ (fun hHeld => ?_)
   clear hK K
   refine nm_ 6 ?_
   exact norm_ (by first | (simp only [putAll, Act.put, List.setIfInBounds_toArray, List.set_cons_zero, List.set_cons_succ]; done) | (simp only [putAll, Act.put, List.setIfInBounds_toArray, List.set_cons_zero, List.set_cons_succ]; rfl)) (hJ0_3_4_8 (v543, v546, v549, v555) _ ⟨hHeld, (ra HO547.out), (rm_ HO550 (fun _ hk => hk.2)).out, (ra HO556.out), (ba BK540.out), (ba BK541.out), (hB HB)⟩)
  intro hJ0_4_8
  refine join_ (σ := Value × Value) 6 (bs 14 1647) (fun s_ => [(3, s_.1), (6, s_.2)]) (fun s_ w' => (w'.cell? ⟨gb540, 0, none⟩ = some (.slice A0_0 l0_0.length c0_0) ∧ w'.cell? ⟨gb540, 1, none⟩ = some (.slice A0_1 l0_1.length c0_1) ∧ w'.cell? ⟨gb540, 2, none⟩ = some (.slice A0_2 l0_2.length c0_2)) ∧ (Kd.R (Kd.int .i64) 3 w' w.heap.size (fun _ => True) s_.2 y545) ∧ (w'.heap[gb540]? = some (.cells #[.slice A0_0 l0_0.length c0_0, .slice A0_1 l0_1.length c0_1, .slice A0_2 l0_2.length c0_2] 35 (0, 0))) ∧ (w'.heap[gb541]? = some (.cells #[.slice none 0 0, .slice none 0 0, .slice none 0 0] 35 (0, 0))) ∧ (Below w.heap.size w w')) ?_ ?_
  rotate_left
  rotate_left
  ·skip
   rintro ⟨v543, v546⟩ w11 ⟨hS_, h0_, h1_, h2_, h3_⟩
   try dsimp only at h0_ h1_ h2_ h3_
   have HO547 := Aside0.mk h0_
   replace BK540 := Aside0.mk h1_
   replace BK541 := Aside0.mk h2_
   replace HB := Aside0.mk h3_
   clear h0_ h1_ h2_ h3_
   have hHeld : w11.cell? ⟨gb540, 0, none⟩ = some (.slice A0_0 l0_0.length c0_0) ∧ w11.cell? ⟨gb540, 1, none⟩ = some (.slice A0_1 l0_1.length c0_1) ∧ w11.cell? ⟨gb540, 2, none⟩ = some (.slice A0_2 l0_2.length c0_2) := hS_
   refine norm_ (a' := ?_) ?_ ?_
   rotate_left
   ·simp only [putAll, Act.put, List.setIfInBounds_toArray, List.set_cons_zero, List.set_cons_succ]
    rfl
   refine two_ (i := 4) (j := 8) (Ni := some 7) (Nj := some 11) (bs 14 1663) (bs 14 1903) rfl rfl rfl rfl (two_of HT_.out (by kernel_rfl)) (by decide) (by decide) (fun K hK => ?_) (fun K hK => ?_)
   rotate_left
   ·skip
    refine Kd.R_lit_step k45 _ 45 ?hg (N := 11) ?hd (xs := ([] : List (S45))) (inner := []) (ok := fun _ => True) (okp := fun _ => True) ?hr ?hp (fun _ hk => hk) trivial (Below.refl _ _) (Nat.le_refl _) (by simp) ?_; (case hd => rfl); (case hg => rfl); (case hr => first | (go_simp; done) | (go_simp; rfl)); (case hp => exact (Reps.none _ _))
    intro v555 w12 ho13 hb hg_ hnew_
    clear hg_ hnew_
    (first | rw [← Ny554.out] at ho13 | (simp only [Int.reduceToNat] at ho13; rw [← Ny554.out] at ho13))
    have HO556 := Aside0.mk (Kd.R_lower ho13 (below_size (hB HB)))
    replace HO547 := rb_ HO547 hb
    replace BK540 := bb_ BK540 hb
    replace BK541 := bb_ BK541 hb
    replace HB := bst_ HB hb
    clear hb ho13
    refine hK.out _ _ ⟨bc_ BK540 0, bc_ BK540 1, bc_ BK540 2⟩ (fun hHeld => ?_)
    clear hK K
    refine nm_ 11 ?_
    exact norm_ (by first | (simp only [putAll, Act.put, List.setIfInBounds_toArray, List.set_cons_zero, List.set_cons_succ]; done) | (simp only [putAll, Act.put, List.setIfInBounds_toArray, List.set_cons_zero, List.set_cons_succ]; rfl)) (hJ0_3_8 (v543, v546, v555) _ ⟨hHeld, (ra HO547.out), (ra HO556.out), (ba BK540.out), (ba BK541.out), (hB HB)⟩)
   skip
   refine Kd.R_lit_step (Kd.int .i64) _ 3 ?hg (N := 7) ?hd (xs := ([] : List Int)) (inner := []) (ok := fun _ => True) (okp := fun _ => True) ?hr ?hp (fun _ hk => hk) trivial (Below.refl _ _) (Nat.le_refl _) (by simp) ?_; (case hd => rfl); (case hg => rfl); (case hr => first | (go_simp; done) | (go_simp; rfl)); (case hp => exact (Reps.none _ _))
   intro v549 w12 ho13 hb hg_ hnew_
   clear hg_ hnew_
   (first | rw [← Ny548.out] at ho13 | (simp only [Int.reduceToNat] at ho13; rw [← Ny548.out] at ho13))
   have HO550 := Aside0.mk (Kd.R_lower (Kd.R_new' ho13 (rl_ HO547)) (below_size (hB HB)))
   replace HO547 := re_ HO547 ho13 hb
   replace BK540 := bb_ BK540 hb
   replace BK541 := bb_ BK541 hb
   replace HB := bst_ HB hb
   clear hb ho13
   refine hK.out _ _ ⟨bc_ BK540 0, bc_ BK540 1, bc_ BK540 2⟩ (fun hHeld => ?_)
   clear hK K
   refine nm_ 7 ?_
   exact norm_ (by first | (simp only [putAll, Act.put, List.setIfInBounds_toArray, List.set_cons_zero, List.set_cons_succ]; done) | (simp only [putAll, Act.put, List.setIfInBounds_toArray, List.set_cons_zero, List.set_cons_succ]; rfl)) (hJ0_3_4 (v543, v546, v549) _ ⟨hHeld, (rm_ HO547 (fun _ hk => hk.2)).out, (rm_ HO550 (fun _ hk => hk.2)).out, (ba BK540.out), (ba BK541.out), (hB HB)⟩)
  intro hJ0_3
  refine join_ (σ := Value × Value) 6 (bs 14 1655) (fun s_ => [(3, s_.1), (7, s_.2)]) (fun s_ w' => (w'.cell? ⟨gb540, 0, none⟩ = some (.slice A0_0 l0_0.length c0_0) ∧ w'.cell? ⟨gb540, 1, none⟩ = some (.slice A0_1 l0_1.length c0_1) ∧ w'.cell? ⟨gb540, 2, none⟩ = some (.slice A0_2 l0_2.length c0_2)) ∧ (Kd.R (Kd.int .i64) 3 w' w.heap.size (fun k_ => no_ s_.2 k_) s_.1 y542) ∧ (Kd.R (Kd.int .i64) 3 w' w.heap.size (fun k_ => no_ s_.1 k_) s_.2 y548) ∧ (w'.heap[gb540]? = some (.cells #[.slice A0_0 l0_0.length c0_0, .slice A0_1 l0_1.length c0_1, .slice A0_2 l0_2.length c0_2] 35 (0, 0))) ∧ (w'.heap[gb541]? = some (.cells #[.slice none 0 0, .slice none 0 0, .slice none 0 0] 35 (0, 0))) ∧ (Below w.heap.size w w')) ?_ ?_
  rotate_left
  rotate_left
  ·skip
   rintro ⟨v543, v549⟩ w12 ⟨hS_, h0_, h1_, h2_, h3_, h4_⟩
   try dsimp only at h0_ h1_ h2_ h3_ h4_
   have HO544 := Aside0.mk h0_
   have HO550 := Aside0.mk h1_
   replace BK540 := Aside0.mk h2_
   replace BK541 := Aside0.mk h3_
   replace HB := Aside0.mk h4_
   clear h0_ h1_ h2_ h3_ h4_
   have hHeld : w12.cell? ⟨gb540, 0, none⟩ = some (.slice A0_0 l0_0.length c0_0) ∧ w12.cell? ⟨gb540, 1, none⟩ = some (.slice A0_1 l0_1.length c0_1) ∧ w12.cell? ⟨gb540, 2, none⟩ = some (.slice A0_2 l0_2.length c0_2) := hS_
   refine norm_ (a' := ?_) ?_ ?_
   rotate_left
   ·simp only [putAll, Act.put, List.setIfInBounds_toArray, List.set_cons_zero, List.set_cons_succ]
    rfl
   refine two_ (i := 3) (j := 8) (Ni := some 6) (Nj := some 11) (bs 14 1663) (bs 14 1911) rfl rfl rfl rfl (two_of HT_.out (by kernel_rfl)) (by decide) (by decide) (fun K hK => ?_) (fun K hK => ?_)
   rotate_left
   ·skip
    refine Kd.R_lit_step k45 _ 45 ?hg (N := 11) ?hd (xs := ([] : List (S45))) (inner := []) (ok := fun _ => True) (okp := fun _ => True) ?hr ?hp (fun _ hk => hk) trivial (Below.refl _ _) (Nat.le_refl _) (by simp) ?_; (case hd => rfl); (case hg => rfl); (case hr => first | (go_simp; done) | (go_simp; rfl)); (case hp => exact (Reps.none _ _))
    intro v555 w13 ho14 hb hg_ hnew_
    clear hg_ hnew_
    (first | rw [← Ny554.out] at ho14 | (simp only [Int.reduceToNat] at ho14; rw [← Ny554.out] at ho14))
    have HO556 := Aside0.mk (Kd.R_lower ho14 (below_size (hB HB)))
    replace HO544 := rb_ HO544 hb
    replace HO550 := rb_ HO550 hb
    replace BK540 := bb_ BK540 hb
    replace BK541 := bb_ BK541 hb
    replace HB := bst_ HB hb
    clear hb ho14
    refine hK.out _ _ ⟨bc_ BK540 0, bc_ BK540 1, bc_ BK540 2⟩ (fun hHeld => ?_)
    clear hK K
    refine nm_ 11 ?_
    exact norm_ (by first | (simp only [putAll, Act.put, List.setIfInBounds_toArray, List.set_cons_zero, List.set_cons_succ]; done) | (simp only [putAll, Act.put, List.setIfInBounds_toArray, List.set_cons_zero, List.set_cons_succ]; rfl)) (hJ0_4_8 (v543, v549, v555) _ ⟨hHeld, (ra HO544.out), (ra HO550.out), (ra HO556.out), (ba BK540.out), (ba BK541.out), (hB HB)⟩)
   skip
   refine Kd.R_append_rows_step (Kd.int .i64) (w0 := w) w.heap.size (by rfl) (.tmp 3) (.tmp 5) 22 3 (.int .i64 0) 8 rfl Try.underlying22 info3 rfl (by decide) (by omega) v543 y542 l0_0 _ _ _ (fun k_ => no_ v549 k_) (fun _ => False) rfl rfl ?aO ?aR (fun _ _ h => h) (fun _ h => h.elim) ?aF ?aB ?aS ?aL ?_
   (case aR => exact ca (Kd.C_below HR0_0.out HB.out))
   (case aB => exact (hB HB))
   (case aF => exact (fun k_ hk => Kd.fresh' (rl_ HO550) k_ hk))
   (case aO => exact (ra HO544.out))
   (case aS => exact (below_size (hB HB)))
   (case aL => have := LMc2.out; omega)
   intro v546 w13 ho hb hg hat
   rw [← Ny545.out] at ho
   have HO547 := Aside0.mk (ho)
   replace BK540 := Aside0.mk (blk_grown (g := gb540) (o := .cells #[.slice A0_0 l0_0.length c0_0, .slice A0_1 l0_1.length c0_1, .slice A0_2 l0_2.length c0_2] 35 (0, 0)) (ba BK540.out) hg (Kd.R_ne HO544.out BK540.out (by decide)))
   replace BK541 := Aside0.mk (blk_grown (g := gb541) (o := .cells #[.slice none 0 0, .slice none 0 0, .slice none 0 0] 35 (0, 0)) (ba BK541.out) hg (Kd.R_ne HO544.out BK541.out (by decide)))
   replace HO550 := Aside0.mk (Kd.R_after (ok := (fun _ => True)) (rm_ HO550 (fun _ hk => ⟨trivial, hk⟩)).out hg hat)
   replace HB := Aside0.mk (hb)
   clear HO544
   clear ho hb hg hat
   refine hK.out _ _ ⟨bc_ BK540 0, bc_ BK540 1, bc_ BK540 2⟩ (fun hHeld => ?_)
   clear hK K
   refine nm_ 6 ?_
   exact norm_ (by first | (simp only [putAll, Act.put, List.setIfInBounds_toArray, List.set_cons_zero, List.set_cons_succ]; done) | (simp only [putAll, Act.put, List.setIfInBounds_toArray, List.set_cons_zero, List.set_cons_succ]; rfl)) (hJ0_3_4 (v543, v546, v549) _ ⟨hHeld, (ra HO547.out), (rm_ HO550 (fun _ hk => hk.2)).out, (ba BK540.out), (ba BK541.out), (hB HB)⟩)
  intro hJ0_4
  refine join_ (σ := Value × Value) 6 (bs 14 1895) (fun s_ => [(3, s_.1), (11, s_.2)]) (fun s_ w' => (w'.cell? ⟨gb540, 0, none⟩ = some (.slice A0_0 l0_0.length c0_0) ∧ w'.cell? ⟨gb540, 1, none⟩ = some (.slice A0_1 l0_1.length c0_1) ∧ w'.cell? ⟨gb540, 2, none⟩ = some (.slice A0_2 l0_2.length c0_2)) ∧ (Kd.R (Kd.int .i64) 3 w' w.heap.size (fun _ => True) s_.1 y542) ∧ (Kd.R k45 45 w' w.heap.size (fun _ => True) s_.2 y554) ∧ (w'.heap[gb540]? = some (.cells #[.slice A0_0 l0_0.length c0_0, .slice A0_1 l0_1.length c0_1, .slice A0_2 l0_2.length c0_2] 35 (0, 0))) ∧ (w'.heap[gb541]? = some (.cells #[.slice none 0 0, .slice none 0 0, .slice none 0 0] 35 (0, 0))) ∧ (Below w.heap.size w w')) ?_ ?_
  rotate_left
  rotate_left
  ·skip
   rintro ⟨v543, v555⟩ w12 ⟨hS_, h0_, h1_, h2_, h3_, h4_⟩
   try dsimp only at h0_ h1_ h2_ h3_ h4_
   have HO544 := Aside0.mk h0_
   have HO556 := Aside0.mk h1_
   replace BK540 := Aside0.mk h2_
   replace BK541 := Aside0.mk h3_
   replace HB := Aside0.mk h4_
   clear h0_ h1_ h2_ h3_ h4_
   have hHeld : w12.cell? ⟨gb540, 0, none⟩ = some (.slice A0_0 l0_0.length c0_0) ∧ w12.cell? ⟨gb540, 1, none⟩ = some (.slice A0_1 l0_1.length c0_1) ∧ w12.cell? ⟨gb540, 2, none⟩ = some (.slice A0_2 l0_2.length c0_2) := hS_
   refine norm_ (a' := ?_) ?_ ?_
   rotate_left
   ·simp only [putAll, Act.put, List.setIfInBounds_toArray, List.set_cons_zero, List.set_cons_succ]
    rfl
   refine two_ (i := 3) (j := 4) (Ni := some 6) (Nj := some 7) (bs 14 1903) (bs 14 1911) rfl rfl rfl rfl (two_of HT_.out (by kernel_rfl)) (by decide) (by decide) (fun K hK => ?_) (fun K hK => ?_)
   rotate_left
   ·skip
    refine Kd.R_lit_step (Kd.int .i64) _ 3 ?hg (N := 7) ?hd (xs := ([] : List Int)) (inner := []) (ok := fun _ => True) (okp := fun _ => True) ?hr ?hp (fun _ hk => hk) trivial (Below.refl _ _) (Nat.le_refl _) (by simp) ?_; (case hd => rfl); (case hg => rfl); (case hr => first | (go_simp; done) | (go_simp; rfl)); (case hp => exact (Reps.none _ _))
    intro v549 w13 ho14 hb hg_ hnew_
    clear hg_ hnew_
    (first | rw [← Ny548.out] at ho14 | (simp only [Int.reduceToNat] at ho14; rw [← Ny548.out] at ho14))
    have HO550 := Aside0.mk (Kd.R_lower (Kd.R_new' ho14 (rl_ HO544)) (below_size (hB HB)))
    replace HO544 := re_ HO544 ho14 hb
    replace HO556 := rb_ HO556 hb
    replace BK540 := bb_ BK540 hb
    replace BK541 := bb_ BK541 hb
    replace HB := bst_ HB hb
    clear hb ho14
    refine hK.out _ _ ⟨bc_ BK540 0, bc_ BK540 1, bc_ BK540 2⟩ (fun hHeld => ?_)
    clear hK K
    refine nm_ 7 ?_
    exact norm_ (by first | (simp only [putAll, Act.put, List.setIfInBounds_toArray, List.set_cons_zero, List.set_cons_succ]; done) | (simp only [putAll, Act.put, List.setIfInBounds_toArray, List.set_cons_zero, List.set_cons_succ]; rfl)) (hJ0_4_8 (v543, v549, v555) _ ⟨hHeld, (rm_ HO544 (fun _ hk => hk.2)).out, (rm_ HO550 (fun _ hk => hk.2)).out, (ra HO556.out), (ba BK540.out), (ba BK541.out), (hB HB)⟩)
   skip
   refine Kd.R_append_rows_step (Kd.int .i64) (w0 := w) w.heap.size (by rfl) (.tmp 3) (.tmp 5) 22 3 (.int .i64 0) 8 rfl Try.underlying22 info3 rfl (by decide) (by omega) v543 y542 l0_0 _ _ _ (fun _ => True) (fun _ => False) rfl rfl ?aO ?aR (fun _ _ h => h) (fun _ h => h.elim) ?aF ?aB ?aS ?aL ?_
   (case aR => exact ca (Kd.C_below HR0_0.out HB.out))
   (case aB => exact (hB HB))
   (case aF => exact (fun _ _ => trivial))
   (case aO => exact (ra HO544.out))
   (case aS => exact (below_size (hB HB)))
   (case aL => have := LMc2.out; omega)
   intro v546 w13 ho hb hg hat
   rw [← Ny545.out] at ho
   have HO547 := Aside0.mk (ho)
   replace BK540 := Aside0.mk (blk_grown (g := gb540) (o := .cells #[.slice A0_0 l0_0.length c0_0, .slice A0_1 l0_1.length c0_1, .slice A0_2 l0_2.length c0_2] 35 (0, 0)) (ba BK540.out) hg (Kd.R_ne HO544.out BK540.out (by decide)))
   replace BK541 := Aside0.mk (blk_grown (g := gb541) (o := .cells #[.slice none 0 0, .slice none 0 0, .slice none 0 0] 35 (0, 0)) (ba BK541.out) hg (Kd.R_ne HO544.out BK541.out (by decide)))
   replace HO556 := Aside0.mk (Kd.R_over' (ra HO556.out) (Kd.R_typed (ra HO544.out)) (by decide) hg)
   replace HB := Aside0.mk (hb)
   clear HO544
   clear ho hb hg hat
   refine hK.out _ _ ⟨bc_ BK540 0, bc_ BK540 1, bc_ BK540 2⟩ (fun hHeld => ?_)
   clear hK K
   refine nm_ 6 ?_
   exact norm_ (by first | (simp only [putAll, Act.put, List.setIfInBounds_toArray, List.set_cons_zero, List.set_cons_succ]; done) | (simp only [putAll, Act.put, List.setIfInBounds_toArray, List.set_cons_zero, List.set_cons_succ]; rfl)) (hJ0_3_8 (v543, v546, v555) _ ⟨hHeld, (ra HO547.out), (ra HO556.out), (ba BK540.out), (ba BK541.out), (hB HB)⟩)
  intro hJ0_8
  refine join_ (σ := Value × Value) 6 (bs 14 1910) (fun s_ => [(7, s_.1), (11, s_.2)]) (fun s_ w' => (w'.cell? ⟨gb540, 0, none⟩ = some (.slice A0_0 l0_0.length c0_0) ∧ w'.cell? ⟨gb540, 1, none⟩ = some (.slice A0_1 l0_1.length c0_1) ∧ w'.cell? ⟨gb540, 2, none⟩ = some (.slice A0_2 l0_2.length c0_2)) ∧ (Kd.R (Kd.int .i64) 3 w' w.heap.size (fun _ => True) s_.1 y548) ∧ (Kd.R k45 45 w' w.heap.size (fun _ => True) s_.2 y554) ∧ (w'.heap[gb540]? = some (.cells #[.slice A0_0 l0_0.length c0_0, .slice A0_1 l0_1.length c0_1, .slice A0_2 l0_2.length c0_2] 35 (0, 0))) ∧ (w'.heap[gb541]? = some (.cells #[.slice none 0 0, .slice none 0 0, .slice none 0 0] 35 (0, 0))) ∧ (Below w.heap.size w w')) ?_ ?_
  rotate_left
  rotate_left
  ·skip
   rintro ⟨v549, v555⟩ w12 ⟨hS_, h0_, h1_, h2_, h3_, h4_⟩
   try dsimp only at h0_ h1_ h2_ h3_ h4_
   have HO550 := Aside0.mk h0_
   have HO556 := Aside0.mk h1_
   replace BK540 := Aside0.mk h2_
   replace BK541 := Aside0.mk h3_
   replace HB := Aside0.mk h4_
   clear h0_ h1_ h2_ h3_ h4_
   have hHeld : w12.cell? ⟨gb540, 0, none⟩ = some (.slice A0_0 l0_0.length c0_0) ∧ w12.cell? ⟨gb540, 1, none⟩ = some (.slice A0_1 l0_1.length c0_1) ∧ w12.cell? ⟨gb540, 2, none⟩ = some (.slice A0_2 l0_2.length c0_2) := hS_
   refine norm_ (a' := ?_) ?_ ?_
   rotate_left
   ·simp only [putAll, Act.put, List.setIfInBounds_toArray, List.set_cons_zero, List.set_cons_succ]
    rfl
   refine one_ (i := 0) (N := some 3) (bs 14 1911) rfl rfl (one_of HT_.out (by kernel_rfl)) (by decide) (fun K hK => ?_)
   refine Kd.R_lit_step (Kd.int .i64) _ 3 ?hg (N := 3) ?hd (xs := ([] : List Int)) (inner := []) (ok := fun _ => True) (okp := fun _ => True) ?hr ?hp (fun _ hk => hk) trivial (Below.refl _ _) (Nat.le_refl _) (by simp) ?_; (case hd => rfl); (case hg => rfl); (case hr => first | (go_simp; done) | (go_simp; rfl)); (case hp => exact (Reps.none _ _))
   intro v543 w13 ho14 hb hg_ hnew_
   clear hg_ hnew_
   (first | rw [← Ny542.out] at ho14 | (simp only [Int.reduceToNat] at ho14; rw [← Ny542.out] at ho14))
   have HO544 := Aside0.mk (Kd.R_lower (Kd.R_new' ho14 (rl_ HO550)) (below_size (hB HB)))
   replace HO550 := re_ HO550 ho14 hb
   replace HO556 := rb_ HO556 hb
   replace BK540 := bb_ BK540 hb
   replace BK541 := bb_ BK541 hb
   replace HB := bst_ HB hb
   clear hb ho14
   refine hK.out _ _ ⟨bc_ BK540 0, bc_ BK540 1, bc_ BK540 2⟩ (fun hHeld => ?_)
   clear hK K
   refine nm_ 3 ?_
   exact norm_ (by first | (simp only [putAll, Act.put, List.setIfInBounds_toArray, List.set_cons_zero, List.set_cons_succ]; done) | (simp only [putAll, Act.put, List.setIfInBounds_toArray, List.set_cons_zero, List.set_cons_succ]; rfl)) (hJ0_4_8 (v543, v549, v555) _ ⟨hHeld, (rm_ HO544 (fun _ hk => hk.2)).out, (rm_ HO550 (fun _ hk => hk.2)).out, (ra HO556.out), (ba BK540.out), (ba BK541.out), (hB HB)⟩)
  intro hJ4_8
  refine join_ (σ := Value) 7 (bs 14 1639) (fun s_ => [(3, s_)]) (fun s_ w' => (w'.cell? ⟨gb540, 0, none⟩ = some (.slice A0_0 l0_0.length c0_0) ∧ w'.cell? ⟨gb540, 1, none⟩ = some (.slice A0_1 l0_1.length c0_1) ∧ w'.cell? ⟨gb540, 2, none⟩ = some (.slice A0_2 l0_2.length c0_2)) ∧ (Kd.R (Kd.int .i64) 3 w' w.heap.size (fun _ => True) s_ y542) ∧ (w'.heap[gb540]? = some (.cells #[.slice A0_0 l0_0.length c0_0, .slice A0_1 l0_1.length c0_1, .slice A0_2 l0_2.length c0_2] 35 (0, 0))) ∧ (w'.heap[gb541]? = some (.cells #[.slice none 0 0, .slice none 0 0, .slice none 0 0] 35 (0, 0))) ∧ (Below w.heap.size w w')) ?_ ?_
  rotate_left
  rotate_left
  ·skip
   rintro v543 w10 ⟨hS_, h0_, h1_, h2_, h3_⟩
   try dsimp only at h0_ h1_ h2_ h3_
   have HO544 := Aside0.mk h0_
   replace BK540 := Aside0.mk h1_
   replace BK541 := Aside0.mk h2_
   replace HB := Aside0.mk h3_
   clear h0_ h1_ h2_ h3_
   have hHeld : w10.cell? ⟨gb540, 0, none⟩ = some (.slice A0_0 l0_0.length c0_0) ∧ w10.cell? ⟨gb540, 1, none⟩ = some (.slice A0_1 l0_1.length c0_1) ∧ w10.cell? ⟨gb540, 2, none⟩ = some (.slice A0_2 l0_2.length c0_2) := hS_
   refine norm_ (a' := ?_) ?_ ?_
   rotate_left
   ·simp only [putAll, Act.put, List.setIfInBounds_toArray, List.set_cons_zero, List.set_cons_succ]
    rfl
   refine three_ (i := 3) (j := 4) (k := 8) (Ni := some 6) (Nj := some 7) (Nk := some 11) (bs 14 1647) (bs 14 1655) (bs 14 1895) rfl rfl rfl rfl rfl rfl (three_of HT_.out (by kernel_rfl)) (by decide) (by decide) (by decide) (fun K hK => ?_) (fun K hK => ?_) (fun K hK => ?_)
   rotate_left
   ·skip
    refine Kd.R_lit_step (Kd.int .i64) _ 3 ?hg (N := 7) ?hd (xs := ([] : List Int)) (inner := []) (ok := fun _ => True) (okp := fun _ => True) ?hr ?hp (fun _ hk => hk) trivial (Below.refl _ _) (Nat.le_refl _) (by simp) ?_; (case hd => rfl); (case hg => rfl); (case hr => first | (go_simp; done) | (go_simp; rfl)); (case hp => exact (Reps.none _ _))
    intro v549 w11 ho12 hb hg_ hnew_
    clear hg_ hnew_
    (first | rw [← Ny548.out] at ho12 | (simp only [Int.reduceToNat] at ho12; rw [← Ny548.out] at ho12))
    have HO550 := Aside0.mk (Kd.R_lower (Kd.R_new' ho12 (rl_ HO544)) (below_size (hB HB)))
    replace HO544 := re_ HO544 ho12 hb
    replace BK540 := bb_ BK540 hb
    replace BK541 := bb_ BK541 hb
    replace HB := bst_ HB hb
    clear hb ho12
    refine hK.out _ _ ⟨bc_ BK540 0, bc_ BK540 1, bc_ BK540 2⟩ (fun hHeld => ?_)
    clear hK K
    refine nm_ 7 ?_
    exact norm_ (by first | (simp only [putAll, Act.put, List.setIfInBounds_toArray, List.set_cons_zero, List.set_cons_succ]; done) | (simp only [putAll, Act.put, List.setIfInBounds_toArray, List.set_cons_zero, List.set_cons_succ]; rfl)) (hJ0_4 (v543, v549) _ ⟨hHeld, (rm_ HO544 (fun _ hk => hk.2)).out, (rm_ HO550 (fun _ hk => hk.2)).out, (ba BK540.out), (ba BK541.out), (hB HB)⟩)
   ·skip
    refine Kd.R_lit_step k45 _ 45 ?hg (N := 11) ?hd (xs := ([] : List (S45))) (inner := []) (ok := fun _ => True) (okp := fun _ => True) ?hr ?hp (fun _ hk => hk) trivial (Below.refl _ _) (Nat.le_refl _) (by simp) ?_; (case hd => rfl); (case hg => rfl); (case hr => first | (go_simp; done) | (go_simp; rfl)); (case hp => exact (Reps.none _ _))
    intro v555 w11 ho12 hb hg_ hnew_
    clear hg_ hnew_
    (first | rw [← Ny554.out] at ho12 | (simp only [Int.reduceToNat] at ho12; rw [← Ny554.out] at ho12))
    have HO556 := Aside0.mk (Kd.R_lower ho12 (below_size (hB HB)))
    replace HO544 := rb_ HO544 hb
    replace BK540 := bb_ BK540 hb
    replace BK541 := bb_ BK541 hb
    replace HB := bst_ HB hb
    clear hb ho12
    refine hK.out _ _ ⟨bc_ BK540 0, bc_ BK540 1, bc_ BK540 2⟩ (fun hHeld => ?_)
    clear hK K
    refine nm_ 11 ?_
    exact norm_ (by first | (simp only [putAll, Act.put, List.setIfInBounds_toArray, List.set_cons_zero, List.set_cons_succ]; done) | (simp only [putAll, Act.put, List.setIfInBounds_toArray, List.set_cons_zero, List.set_cons_succ]; rfl)) (hJ0_8 (v543, v555) _ ⟨hHeld, (ra HO544.out), (ra HO556.out), (ba BK540.out), (ba BK541.out), (hB HB)⟩)
   skip
   refine Kd.R_append_rows_step (Kd.int .i64) (w0 := w) w.heap.size (by rfl) (.tmp 3) (.tmp 5) 22 3 (.int .i64 0) 8 rfl Try.underlying22 info3 rfl (by decide) (by omega) v543 y542 l0_0 _ _ _ (fun _ => True) (fun _ => False) rfl rfl ?aO ?aR (fun _ _ h => h) (fun _ h => h.elim) ?aF ?aB ?aS ?aL ?_
   (case aR => exact ca (Kd.C_below HR0_0.out HB.out))
   (case aB => exact (hB HB))
   (case aF => exact (fun _ _ => trivial))
   (case aO => exact (ra HO544.out))
   (case aS => exact (below_size (hB HB)))
   (case aL => have := LMc2.out; omega)
   intro v546 w11 ho hb hg hat
   rw [← Ny545.out] at ho
   have HO547 := Aside0.mk (ho)
   replace BK540 := Aside0.mk (blk_grown (g := gb540) (o := .cells #[.slice A0_0 l0_0.length c0_0, .slice A0_1 l0_1.length c0_1, .slice A0_2 l0_2.length c0_2] 35 (0, 0)) (ba BK540.out) hg (Kd.R_ne HO544.out BK540.out (by decide)))
   replace BK541 := Aside0.mk (blk_grown (g := gb541) (o := .cells #[.slice none 0 0, .slice none 0 0, .slice none 0 0] 35 (0, 0)) (ba BK541.out) hg (Kd.R_ne HO544.out BK541.out (by decide)))
   replace HB := Aside0.mk (hb)
   clear HO544
   clear ho hb hg hat
   refine hK.out _ _ ⟨bc_ BK540 0, bc_ BK540 1, bc_ BK540 2⟩ (fun hHeld => ?_)
   clear hK K
   refine nm_ 6 ?_
   exact norm_ (by first | (simp only [putAll, Act.put, List.setIfInBounds_toArray, List.set_cons_zero, List.set_cons_succ]; done) | (simp only [putAll, Act.put, List.setIfInBounds_toArray, List.set_cons_zero, List.set_cons_succ]; rfl)) (hJ0_3 (v543, v546) _ ⟨hHeld, (ra HO547.out), (ba BK540.out), (ba BK541.out), (hB HB)⟩)
  intro hJ0
  refine join_ (σ := Value) 7 (bs 14 1654) (fun s_ => [(7, s_)]) (fun s_ w' => (w'.cell? ⟨gb540, 0, none⟩ = some (.slice A0_0 l0_0.length c0_0) ∧ w'.cell? ⟨gb540, 1, none⟩ = some (.slice A0_1 l0_1.length c0_1) ∧ w'.cell? ⟨gb540, 2, none⟩ = some (.slice A0_2 l0_2.length c0_2)) ∧ (Kd.R (Kd.int .i64) 3 w' w.heap.size (fun _ => True) s_ y548) ∧ (w'.heap[gb540]? = some (.cells #[.slice A0_0 l0_0.length c0_0, .slice A0_1 l0_1.length c0_1, .slice A0_2 l0_2.length c0_2] 35 (0, 0))) ∧ (w'.heap[gb541]? = some (.cells #[.slice none 0 0, .slice none 0 0, .slice none 0 0] 35 (0, 0))) ∧ (Below w.heap.size w w')) ?_ ?_
  rotate_left
  rotate_left
  ·skip
   rintro v549 w10 ⟨hS_, h0_, h1_, h2_, h3_⟩
   try dsimp only at h0_ h1_ h2_ h3_
   have HO550 := Aside0.mk h0_
   replace BK540 := Aside0.mk h1_
   replace BK541 := Aside0.mk h2_
   replace HB := Aside0.mk h3_
   clear h0_ h1_ h2_ h3_
   have hHeld : w10.cell? ⟨gb540, 0, none⟩ = some (.slice A0_0 l0_0.length c0_0) ∧ w10.cell? ⟨gb540, 1, none⟩ = some (.slice A0_1 l0_1.length c0_1) ∧ w10.cell? ⟨gb540, 2, none⟩ = some (.slice A0_2 l0_2.length c0_2) := hS_
   refine norm_ (a' := ?_) ?_ ?_
   rotate_left
   ·simp only [putAll, Act.put, List.setIfInBounds_toArray, List.set_cons_zero, List.set_cons_succ]
    rfl
   refine two_ (i := 0) (j := 8) (Ni := some 3) (Nj := some 11) (bs 14 1655) (bs 14 1910) rfl rfl rfl rfl (two_of HT_.out (by kernel_rfl)) (by decide) (by decide) (fun K hK => ?_) (fun K hK => ?_)
   rotate_left
   ·skip
    refine Kd.R_lit_step k45 _ 45 ?hg (N := 11) ?hd (xs := ([] : List (S45))) (inner := []) (ok := fun _ => True) (okp := fun _ => True) ?hr ?hp (fun _ hk => hk) trivial (Below.refl _ _) (Nat.le_refl _) (by simp) ?_; (case hd => rfl); (case hg => rfl); (case hr => first | (go_simp; done) | (go_simp; rfl)); (case hp => exact (Reps.none _ _))
    intro v555 w11 ho12 hb hg_ hnew_
    clear hg_ hnew_
    (first | rw [← Ny554.out] at ho12 | (simp only [Int.reduceToNat] at ho12; rw [← Ny554.out] at ho12))
    have HO556 := Aside0.mk (Kd.R_lower ho12 (below_size (hB HB)))
    replace HO550 := rb_ HO550 hb
    replace BK540 := bb_ BK540 hb
    replace BK541 := bb_ BK541 hb
    replace HB := bst_ HB hb
    clear hb ho12
    refine hK.out _ _ ⟨bc_ BK540 0, bc_ BK540 1, bc_ BK540 2⟩ (fun hHeld => ?_)
    clear hK K
    refine nm_ 11 ?_
    exact norm_ (by first | (simp only [putAll, Act.put, List.setIfInBounds_toArray, List.set_cons_zero, List.set_cons_succ]; done) | (simp only [putAll, Act.put, List.setIfInBounds_toArray, List.set_cons_zero, List.set_cons_succ]; rfl)) (hJ4_8 (v549, v555) _ ⟨hHeld, (ra HO550.out), (ra HO556.out), (ba BK540.out), (ba BK541.out), (hB HB)⟩)
   skip
   refine Kd.R_lit_step (Kd.int .i64) _ 3 ?hg (N := 3) ?hd (xs := ([] : List Int)) (inner := []) (ok := fun _ => True) (okp := fun _ => True) ?hr ?hp (fun _ hk => hk) trivial (Below.refl _ _) (Nat.le_refl _) (by simp) ?_; (case hd => rfl); (case hg => rfl); (case hr => first | (go_simp; done) | (go_simp; rfl)); (case hp => exact (Reps.none _ _))
   intro v543 w11 ho12 hb hg_ hnew_
   clear hg_ hnew_
   (first | rw [← Ny542.out] at ho12 | (simp only [Int.reduceToNat] at ho12; rw [← Ny542.out] at ho12))
   have HO544 := Aside0.mk (Kd.R_lower (Kd.R_new' ho12 (rl_ HO550)) (below_size (hB HB)))
   replace HO550 := re_ HO550 ho12 hb
   replace BK540 := bb_ BK540 hb
   replace BK541 := bb_ BK541 hb
   replace HB := bst_ HB hb
   clear hb ho12
   refine hK.out _ _ ⟨bc_ BK540 0, bc_ BK540 1, bc_ BK540 2⟩ (fun hHeld => ?_)
   clear hK K
   refine nm_ 3 ?_
   exact norm_ (by first | (simp only [putAll, Act.put, List.setIfInBounds_toArray, List.set_cons_zero, List.set_cons_succ]; done) | (simp only [putAll, Act.put, List.setIfInBounds_toArray, List.set_cons_zero, List.set_cons_succ]; rfl)) (hJ0_4 (v543, v549) _ ⟨hHeld, (rm_ HO544 (fun _ hk => hk.2)).out, (rm_ HO550 (fun _ hk => hk.2)).out, (ba BK540.out), (ba BK541.out), (hB HB)⟩)
  intro hJ4
  refine join_ (σ := Value) 7 (bs 14 1894) (fun s_ => [(11, s_)]) (fun s_ w' => (w'.cell? ⟨gb540, 0, none⟩ = some (.slice A0_0 l0_0.length c0_0) ∧ w'.cell? ⟨gb540, 1, none⟩ = some (.slice A0_1 l0_1.length c0_1) ∧ w'.cell? ⟨gb540, 2, none⟩ = some (.slice A0_2 l0_2.length c0_2)) ∧ (Kd.R k45 45 w' w.heap.size (fun _ => True) s_ y554) ∧ (w'.heap[gb540]? = some (.cells #[.slice A0_0 l0_0.length c0_0, .slice A0_1 l0_1.length c0_1, .slice A0_2 l0_2.length c0_2] 35 (0, 0))) ∧ (w'.heap[gb541]? = some (.cells #[.slice none 0 0, .slice none 0 0, .slice none 0 0] 35 (0, 0))) ∧ (Below w.heap.size w w')) ?_ ?_
  rotate_left
  rotate_left
  ·skip
   rintro v555 w10 ⟨hS_, h0_, h1_, h2_, h3_⟩
   try dsimp only at h0_ h1_ h2_ h3_
   have HO556 := Aside0.mk h0_
   replace BK540 := Aside0.mk h1_
   replace BK541 := Aside0.mk h2_
   replace HB := Aside0.mk h3_
   clear h0_ h1_ h2_ h3_
   have hHeld : w10.cell? ⟨gb540, 0, none⟩ = some (.slice A0_0 l0_0.length c0_0) ∧ w10.cell? ⟨gb540, 1, none⟩ = some (.slice A0_1 l0_1.length c0_1) ∧ w10.cell? ⟨gb540, 2, none⟩ = some (.slice A0_2 l0_2.length c0_2) := hS_
   refine norm_ (a' := ?_) ?_ ?_
   rotate_left
   ·simp only [putAll, Act.put, List.setIfInBounds_toArray, List.set_cons_zero, List.set_cons_succ]
    rfl
   refine two_ (i := 0) (j := 4) (Ni := some 3) (Nj := some 7) (bs 14 1895) (bs 14 1910) rfl rfl rfl rfl (two_of HT_.out (by kernel_rfl)) (by decide) (by decide) (fun K hK => ?_) (fun K hK => ?_)
   rotate_left
   ·skip
    refine Kd.R_lit_step (Kd.int .i64) _ 3 ?hg (N := 7) ?hd (xs := ([] : List Int)) (inner := []) (ok := fun _ => True) (okp := fun _ => True) ?hr ?hp (fun _ hk => hk) trivial (Below.refl _ _) (Nat.le_refl _) (by simp) ?_; (case hd => rfl); (case hg => rfl); (case hr => first | (go_simp; done) | (go_simp; rfl)); (case hp => exact (Reps.none _ _))
    intro v549 w11 ho12 hb hg_ hnew_
    clear hg_ hnew_
    (first | rw [← Ny548.out] at ho12 | (simp only [Int.reduceToNat] at ho12; rw [← Ny548.out] at ho12))
    have HO550 := Aside0.mk (Kd.R_lower ho12 (below_size (hB HB)))
    replace HO556 := rb_ HO556 hb
    replace BK540 := bb_ BK540 hb
    replace BK541 := bb_ BK541 hb
    replace HB := bst_ HB hb
    clear hb ho12
    refine hK.out _ _ ⟨bc_ BK540 0, bc_ BK540 1, bc_ BK540 2⟩ (fun hHeld => ?_)
    clear hK K
    refine nm_ 7 ?_
    exact norm_ (by first | (simp only [putAll, Act.put, List.setIfInBounds_toArray, List.set_cons_zero, List.set_cons_succ]; done) | (simp only [putAll, Act.put, List.setIfInBounds_toArray, List.set_cons_zero, List.set_cons_succ]; rfl)) (hJ4_8 (v549, v555) _ ⟨hHeld, (ra HO550.out), (ra HO556.out), (ba BK540.out), (ba BK541.out), (hB HB)⟩)
   skip
   refine Kd.R_lit_step (Kd.int .i64) _ 3 ?hg (N := 3) ?hd (xs := ([] : List Int)) (inner := []) (ok := fun _ => True) (okp := fun _ => True) ?hr ?hp (fun _ hk => hk) trivial (Below.refl _ _) (Nat.le_refl _) (by simp) ?_; (case hd => rfl); (case hg => rfl); (case hr => first | (go_simp; done) | (go_simp; rfl)); (case hp => exact (Reps.none _ _))
   intro v543 w11 ho12 hb hg_ hnew_
   clear hg_ hnew_
   (first | rw [← Ny542.out] at ho12 | (simp only [Int.reduceToNat] at ho12; rw [← Ny542.out] at ho12))
   have HO544 := Aside0.mk (Kd.R_lower ho12 (below_size (hB HB)))
   replace HO556 := rb_ HO556 hb
   replace BK540 := bb_ BK540 hb
   replace BK541 := bb_ BK541 hb
   replace HB := bst_ HB hb
   clear hb ho12
   refine hK.out _ _ ⟨bc_ BK540 0, bc_ BK540 1, bc_ BK540 2⟩ (fun hHeld => ?_)
   clear hK K
   refine nm_ 3 ?_
   exact norm_ (by first | (simp only [putAll, Act.put, List.setIfInBounds_toArray, List.set_cons_zero, List.set_cons_succ]; done) | (simp only [putAll, Act.put, List.setIfInBounds_toArray, List.set_cons_zero, List.set_cons_succ]; rfl)) (hJ0_8 (v543, v555) _ ⟨hHeld, (ra HO544.out), (ra HO556.out), (ba BK540.out), (ba BK541.out), (hB HB)⟩)
  intro hJ8
  refine three_ (i := 0) (j := 4) (k := 8) (Ni := some 3) (Nj := some 7) (Nk := some 11) (bs 14 1639) (bs 14 1654) (bs 14 1894) rfl rfl rfl rfl rfl rfl (three_of HT_.out (by kernel_rfl)) (by decide) (by decide) (by decide) (fun K hK => ?_) (fun K hK => ?_) (fun K hK => ?_)
  rotate_left
  ·skip
   refine Kd.R_lit_step (Kd.int .i64) _ 3 ?hg (N := 7) ?hd (xs := ([] : List Int)) (inner := []) (ok := fun _ => True) (okp := fun _ => True) ?hr ?hp (fun _ hk => hk) trivial (Below.refl _ _) (Nat.le_refl _) (by simp) ?_; (case hd => rfl); (case hg => rfl); (case hr => first | (go_simp; done) | (go_simp; rfl)); (case hp => exact (Reps.none _ _))
   intro v549 w8 ho9 hb hg_ hnew_
   clear hg_ hnew_
   (first | rw [← Ny548.out] at ho9 | (simp only [Int.reduceToNat] at ho9; rw [← Ny548.out] at ho9))
   have HO550 := Aside0.mk (Kd.R_lower ho9 (below_size (hB HB)))
   replace BK540 := bb_ BK540 hb
   replace BK541 := bb_ BK541 hb
   replace HB := bst_ HB hb
   clear hb ho9
   refine hK.out _ _ ⟨bc_ BK540 0, bc_ BK540 1, bc_ BK540 2⟩ (fun hHeld => ?_)
   clear hK K
   refine nm_ 7 ?_
   exact norm_ (by first | (simp only [putAll, Act.put, List.setIfInBounds_toArray, List.set_cons_zero, List.set_cons_succ]; done) | (simp only [putAll, Act.put, List.setIfInBounds_toArray, List.set_cons_zero, List.set_cons_succ]; rfl)) (hJ4 (v549) _ ⟨hHeld, (ra HO550.out), (ba BK540.out), (ba BK541.out), (hB HB)⟩)
  ·skip
   refine Kd.R_lit_step k45 _ 45 ?hg (N := 11) ?hd (xs := ([] : List (S45))) (inner := []) (ok := fun _ => True) (okp := fun _ => True) ?hr ?hp (fun _ hk => hk) trivial (Below.refl _ _) (Nat.le_refl _) (by simp) ?_; (case hd => rfl); (case hg => rfl); (case hr => first | (go_simp; done) | (go_simp; rfl)); (case hp => exact (Reps.none _ _))
   intro v555 w8 ho9 hb hg_ hnew_
   clear hg_ hnew_
   (first | rw [← Ny554.out] at ho9 | (simp only [Int.reduceToNat] at ho9; rw [← Ny554.out] at ho9))
   have HO556 := Aside0.mk (Kd.R_lower ho9 (below_size (hB HB)))
   replace BK540 := bb_ BK540 hb
   replace BK541 := bb_ BK541 hb
   replace HB := bst_ HB hb
   clear hb ho9
   refine hK.out _ _ ⟨bc_ BK540 0, bc_ BK540 1, bc_ BK540 2⟩ (fun hHeld => ?_)
   clear hK K
   refine nm_ 11 ?_
   exact norm_ (by first | (simp only [putAll, Act.put, List.setIfInBounds_toArray, List.set_cons_zero, List.set_cons_succ]; done) | (simp only [putAll, Act.put, List.setIfInBounds_toArray, List.set_cons_zero, List.set_cons_succ]; rfl)) (hJ8 (v555) _ ⟨hHeld, (ra HO556.out), (ba BK540.out), (ba BK541.out), (hB HB)⟩)
  skip
  refine Kd.R_lit_step (Kd.int .i64) _ 3 ?hg (N := 3) ?hd (xs := ([] : List Int)) (inner := []) (ok := fun _ => True) (okp := fun _ => True) ?hr ?hp (fun _ hk => hk) trivial (Below.refl _ _) (Nat.le_refl _) (by simp) ?_; (case hd => rfl); (case hg => rfl); (case hr => first | (go_simp; done) | (go_simp; rfl)); (case hp => exact (Reps.none _ _))
  intro v543 w8 ho9 hb hg_ hnew_
  clear hg_ hnew_
  (first | rw [← Ny542.out] at ho9 | (simp only [Int.reduceToNat] at ho9; rw [← Ny542.out] at ho9))
  have HO544 := Aside0.mk (Kd.R_lower ho9 (below_size (hB HB)))
  replace BK540 := bb_ BK540 hb
  replace BK541 := bb_ BK541 hb
  replace HB := bst_ HB hb
  clear hb ho9
  refine hK.out _ _ ⟨bc_ BK540 0, bc_ BK540 1, bc_ BK540 2⟩ (fun hHeld => ?_)
  clear hK K
  refine nm_ 3 ?_
  exact norm_ (by first | (simp only [putAll, Act.put, List.setIfInBounds_toArray, List.set_cons_zero, List.set_cons_succ]; done) | (simp only [putAll, Act.put, List.setIfInBounds_toArray, List.set_cons_zero, List.set_cons_succ]; rfl)) (hJ0 (v543) _ ⟨hHeld, (ra HO544.out), (ba BK540.out), (ba BK541.out), (hB HB)⟩)
 rintro ⟨v543, v546, v549, v552, v555⟩ w16 ⟨hS_, h0_, h1_, h2_, h3_, h4_, h5_⟩
 try dsimp only at h0_ h1_ h2_ h3_ h4_ h5_
 have HO547 := Aside0.mk h0_
 have HO553 := Aside0.mk h1_
 have HO556 := Aside0.mk h2_
 replace BK540 := Aside0.mk h3_
 replace BK541 := Aside0.mk h4_
 replace HB := Aside0.mk h5_
 clear h0_ h1_ h2_ h3_ h4_ h5_
 have hHeld : w16.cell? ⟨gb540, 0, none⟩ = some (.slice A0_0 l0_0.length c0_0) ∧ w16.cell? ⟨gb540, 1, none⟩ = some (.slice A0_1 l0_1.length c0_1) ∧ w16.cell? ⟨gb540, 2, none⟩ = some (.slice A0_2 l0_2.length c0_2) := hS_
 refine norm_ (a' := ?_) ?_ ?_
 rotate_left
 ·simp only [putAll, Act.put, List.setIfInBounds_toArray, List.set_cons_zero, List.set_cons_succ]
  rfl
 refine one_ (i := 11) (N := some 14) (bs 14 4095) rfl rfl (one_of HT_.out (by kernel_rfl)) (by decide) (fun K hK => ?_)
 refine Kd.R_append_rows_step k45 (w0 := w) w.heap.size (by rfl) (.tmp 11) (.tmp 13) 33 45 (.agg #[(.int .i64 0), (.bool false)]) 16 rfl Try.underlying33 info45 rfl (by decide) (by omega) v555 y554 l0_2 _ _ _ (fun _ => True) (fun _ => False) rfl rfl ?aO ?aR (fun _ _ h => h) (fun _ h => h.elim) ?aF ?aB ?aS ?aL ?_
 (case aR => exact ca (Kd.C_below HR0_2.out HB.out))
 (case aB => exact (hB HB))
 (case aF => exact (fun _ _ => trivial))
 (case aO => exact (ra HO556.out))
 (case aS => exact (below_size (hB HB)))
 (case aL => have := LMc4.out; omega)
 intro v558 w17 ho hb hg hat
 rw [← Ny557.out] at ho
 have HO559 := Aside0.mk (ho)
 replace BK540 := Aside0.mk (blk_grown (g := gb540) (o := .cells #[.slice A0_0 l0_0.length c0_0, .slice A0_1 l0_1.length c0_1, .slice A0_2 l0_2.length c0_2] 35 (0, 0)) (ba BK540.out) hg (Kd.R_ne HO556.out BK540.out (by decide)))
 replace BK541 := Aside0.mk (blk_grown (g := gb541) (o := .cells #[.slice none 0 0, .slice none 0 0, .slice none 0 0] 35 (0, 0)) (ba BK541.out) hg (Kd.R_ne HO556.out BK541.out (by decide)))
 replace HO547 := Aside0.mk (Kd.R_over' (ra HO547.out) (Kd.R_typed (ra HO556.out)) (by decide) hg)
 replace HO553 := Aside0.mk (Kd.R_over' (ra HO553.out) (Kd.R_typed (ra HO556.out)) (by decide) hg)
 replace HB := Aside0.mk (hb)
 clear HO556
 clear ho hb hg hat
 obtain ⟨Ao18, co18, eo18⟩ := Kd.R_slice HO559.out
 subst eo18
 obtain ⟨Ao19, co19, eo19⟩ := Kd.R_slice HO553.out
 subst eo19
 obtain ⟨Ao20, co20, eo20⟩ := Kd.R_slice HO547.out
 subst eo20
 refine hK.out _ _ ⟨bc_ BK540 0, bc_ BK540 1, bc_ BK540 2⟩ (fun hHeld => ?_)
 clear hK K
 refine nm_ 14 ?_
 refine pu_ 12 15 (bs 14 8191) HT_ ?_
 refine one_ (i := 13) (N := none) (bs 14 16383) rfl rfl (one_of HT_.out (by kernel_rfl)) (by decide) (fun K hK => ?_)
 have hs21 : w17.cell? ⟨gb541, 0, none⟩ = some (.slice none 0 0) := bc_ BK541 0
 have hfs21 := blk_frozen BK541.out 0
 have hns21_0 := NB540_541.out
 have hms21_0 := NB541_540.out
 have hs22 : w17.cell? ⟨gb541, 1, none⟩ = some (.slice none 0 0) := bc_ BK541 1
 have hfs22 := blk_frozen BK541.out 1
 have hns22_0 := NB540_541.out
 have hms22_0 := NB541_540.out
 have hs23 : w17.cell? ⟨gb541, 2, none⟩ = some (.slice none 0 0) := bc_ BK541 2
 have hfs23 := blk_frozen BK541.out 2
 have hns23_0 := NB540_541.out
 have hms23_0 := NB541_540.out
 refine skip_ (w1 := ?_) (by rfl) rfl ?_ ?_
 rotate_left
 ·go_simp
  rfl
 refine hK.out _ _ ⟨((cell_far (p := ⟨gb541, _, none⟩) NB540_541.out _).trans (((cell_far (p := ⟨gb541, _, none⟩) NB540_541.out _).trans (((cell_far (p := ⟨gb541, _, none⟩) NB540_541.out _).trans (hHeld.1)))))), ((cell_far (p := ⟨gb541, _, none⟩) NB540_541.out _).trans (((cell_far (p := ⟨gb541, _, none⟩) NB540_541.out _).trans (((cell_far (p := ⟨gb541, _, none⟩) NB540_541.out _).trans (hHeld.2.1)))))), ((cell_far (p := ⟨gb541, _, none⟩) NB540_541.out _).trans (((cell_far (p := ⟨gb541, _, none⟩) NB540_541.out _).trans (((cell_far (p := ⟨gb541, _, none⟩) NB540_541.out _).trans (hHeld.2.2))))))⟩ (fun hHeld => ?_)
 clear hK K
 refine done_ (done_of HT_.out (by kernel_rfl)) ?_
 try go_wp2
 refine bodyPost_ret (results_cell_row rfl _ _ gb541 35 #[.slice Ao20 y545.length co20, .slice Ao19 y551.length co19, .slice Ao18 y557.length co18] (0, 0) _ rfl (by (with_reducible repeat (first | refine blk_drewN ?_ _ | refine blk_drew ?_ | refine blk_alloc ?_ _)); refine blk_put (cs := #[.slice Ao20 y545.length co20, .slice Ao19 y551.length co19, .slice none 0 0]) ?_ 2 _ rfl; (with_reducible repeat (first | refine blk_drewN ?_ _ | refine blk_drew ?_ | refine blk_alloc ?_ _)); refine blk_put (cs := #[.slice Ao20 y545.length co20, .slice none 0 0, .slice none 0 0]) ?_ 1 _ rfl; (with_reducible repeat (first | refine blk_drewN ?_ _ | refine blk_drew ?_ | refine blk_alloc ?_ _)); refine blk_put (cs := #[.slice none 0 0, .slice none 0 0, .slice none 0 0]) ?_ 0 _ rfl; (with_reducible repeat (first | refine blk_drewN ?_ _ | refine blk_drew ?_ | refine blk_alloc ?_ _)); exact BK541.out) Try.underlying35 rfl (by kernel_rfl)) rfl ?_
 exact ⟨_, _, _, by first | rfl | (simp [errW_none, errW_some] <;> rfl) | (simp [*, errW_none, errW_some] <;> rfl), by (with_reducible repeat (first | apply Kd.R_alloc | apply Kd.R_drewN | apply Kd.R_drew)); exact Kd.R_mono (fs3_ HO547.out BK541.out) (fun _ hk => hk.1), by (with_reducible repeat (first | apply Kd.R_alloc | apply Kd.R_drewN | apply Kd.R_drew)); exact Kd.R_mono (fs3_ HO553.out BK541.out) (fun _ hk => hk.1), by (with_reducible repeat (first | apply Kd.R_alloc | apply Kd.R_drewN | apply Kd.R_drew)); exact Kd.R_mono (fs3_ HO559.out BK541.out) (fun _ hk => trivial), by repeat (first | (with_reducible first | exact HB.out | apply below_alloc | apply pw_below_drewN | apply below_drew1 | refine below_set ?_ GE540.out | refine below_set ?_ GE541.out) | exact HB.out)⟩

end Go.Proofs.Ytfkjnpgpofcinaa.P
