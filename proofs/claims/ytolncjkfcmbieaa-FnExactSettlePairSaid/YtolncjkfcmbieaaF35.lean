import Derived.Lib.LazyBuf
import Derived.Test.YtolncjkfcmbieaaF0
import Derived.Test.YtolncjkfcmbieaaF9
namespace Go.Proofs.Ytolncjkfcmbieaa.P
open Go.RowKit Go.Proofs.YtolncjkfcmbieaaW.PrintWords Go.Proofs.YtolncjkfcmbieaaW.PrintLast Go.Proofs.YtolncjkfcmbieaaW.PrintMore
attribute [local go_sem] max2_int min2_int max_two min_two max_three min_three max_four min_four   -- for this text's walks alone
set_option linter.unusedVariables false
set_option linter.unusedSimpArgs false

def spec_l3Own.f (l0_0 : List Int) (l0_1 : List Int) (l0_2 : List (S127)) : Option (List Int × List Int × (List (S127))) := (some (([] : List Int) : List Int)).bind fun y429 => (if y429.length + l0_0.length < 17592186044416 then ((some (([] : List Int) : List Int)).bind fun y435 => (if y435.length + l0_1.length < 17592186044416 then ((some (([] : List (S127)) : List (S127))).bind fun y441 => (if y441.length + l0_2.length < 8796093022208 then (some ((y429 ++ l0_0), (y435 ++ l0_1), (y441 ++ l0_2))) else (none))) else (none))) else (none))
def spec_l3Own.T1 : Bool × List (List Nat × List Nat) := (true, [([], []), ([], []), ([1], [1]), ([0, 2], [0, 2]), ([], []), ([], []), ([5], [5]), ([4, 6, 3], [4, 6]), ([], []), ([], []), ([9], [9]), ([8, 10, 7], [8, 10]), ([3, 7, 11], [3, 7, 11]), ([12, 11, 0, 1, 2, 3, 4, 5, 6, 7, 8, 9, 10, 11, 12], [12])])
def spec_l3Own.B1 : List Nat := [0, 0, 2, 7, 0, 0, 32, 127, 0, 0, 512, 2047, 4095, 8191]
theorem spec_l3Own.tab1 : rtab .any (opsOf Try.f88 1) = spec_l3Own.T1 := by kernel_rfl
theorem spec_l3Own.bits1 : waitsOk spec_l3Own.T1.2 spec_l3Own.B1 = true := by kernel_rfl
set_option maxHeartbeats 8000000 in
set_option maxRecDepth 100000 in
theorem spec_l3Own.calls (A0_0 : Option Addr) (c0_0 : Nat) (l0_0 : List Int) (A0_1 : Option Addr) (c0_1 : Nat) (l0_1 : List Int) (A0_2 : Option Addr) (c0_2 : Nat) (l0_2 : List (S127)) (r1 : List Int) (r2 : List Int) (r3 : List (S127)) (w : World) (hr0_0 : Kd.C (Kd.int .i64) w A0_0 l0_0.length l0_0) (hc0_0 : l0_0.length ≤ c0_0) (hr0_1 : Kd.C (Kd.int .i64) w A0_1 l0_1.length l0_1) (hc0_1 : l0_1.length ≤ c0_1) (hr0_2 : Kd.C k127 w A0_2 l0_2.length l0_2) (hc0_2 : l0_2.length ≤ c0_2) (h : spec_l3Own.f l0_0 l0_1 l0_2 = some (r1, r2, r3)) :
  Calls Try.prog 88 #[.agg #[.slice A0_0 l0_0.length c0_0, .slice A0_1 l0_1.length c0_1, .slice A0_2 l0_2.length c0_2]] w fun e w' => ∃ v0_ v1_ v2_ : Value, e = .returned (.agg #[v0_, v1_, v2_]) ∧ Kd.R (Kd.int .i64) 3 w' w.heap.size (fun k_ => no_ v1_ k_) v0_ r1 ∧ Kd.R (Kd.int .i64) 3 w' w.heap.size (fun k_ => no_ v0_ k_) v1_ r2 ∧ Kd.R k127 127 w' w.heap.size (fun _ => True) v2_ r3 ∧ Below w.heap.size w w' := by
 have hu47 := Try.underlying47
 have HR0_0 := Aside0.mk hr0_0
 have HC0_0 := Aside0.mk hc0_0
 clear hr0_0 hc0_0
 have HR0_1 := Aside0.mk hr0_1
 have HC0_1 := Aside0.mk hc0_1
 clear hr0_1 hc0_1
 have HR0_2 := Aside0.mk hr0_2
 have HC0_2 := Aside0.mk hc0_2
 clear hr0_2 hc0_2
 have HB := Aside0.mk (Below.refl w.heap.size w)
 have H : ((some (([] : List Int) : List Int)).bind fun y429 => (if y429.length + l0_0.length < 17592186044416 then ((some (([] : List Int) : List Int)).bind fun y435 => (if y435.length + l0_1.length < 17592186044416 then ((some (([] : List (S127)) : List (S127))).bind fun y441 => (if y441.length + l0_2.length < 8796093022208 then (some ((y429 ++ l0_0), (y435 ++ l0_1), (y441 ++ l0_2))) else (none))) else (none))) else (none))) = some (r1, r2, r3) := h
 clear h
 obtain ⟨y429, hy429⟩ : ∃ y_ : List Int, y_ = (([] : List Int)) := ⟨_, rfl⟩
 replace H : (if y429.length + l0_0.length < 17592186044416 then ((some (([] : List Int) : List Int)).bind fun y435 => (if y435.length + l0_1.length < 17592186044416 then ((some (([] : List (S127)) : List (S127))).bind fun y441 => (if y441.length + l0_2.length < 8796093022208 then (some ((y429 ++ l0_0), (y435 ++ l0_1), (y441 ++ l0_2))) else (none))) else (none))) else (none)) = some (r1, r2, r3) := by first | (rw [hy429]; with_reducible exact H) | (have H2_ := (Option.bind_some _ _).symm.trans H; rw [hy429]; with_reducible exact H2_) | (have H2_ := (Option.bind_some _ _).symm.trans H; with_reducible exact H2_) | with_reducible exact H | (rw [hy429]; exact H) | exact H
 have Ny429 := Aside0.mk hy429
 clear hy429
 by_cases c2 : y429.length + l0_0.length < 17592186044416
 rotate_left
 ·rw [if_neg c2] at H
  exact absurd H (by simp)
 rw [if_pos c2] at H
 have LMc2 := Aside0.mk c2
 clear c2
 obtain ⟨y432, hy432⟩ : ∃ y_ : List Int, y_ = (y429 ++ l0_0) := ⟨_, rfl⟩
 replace H : ((some (([] : List Int) : List Int)).bind fun y435 => (if y435.length + l0_1.length < 17592186044416 then ((some (([] : List (S127)) : List (S127))).bind fun y441 => (if y441.length + l0_2.length < 8796093022208 then (some (y432, (y435 ++ l0_1), (y441 ++ l0_2))) else (none))) else (none))) = some (r1, r2, r3) := by first | (rw [hy432]; with_reducible exact H) | (have H2_ := (Option.bind_some _ _).symm.trans H; rw [hy432]; with_reducible exact H2_) | (have H2_ := (Option.bind_some _ _).symm.trans H; with_reducible exact H2_) | with_reducible exact H | (rw [hy432]; exact H) | exact H
 have Ny432 := Aside0.mk hy432
 clear hy432
 obtain ⟨y435, hy435⟩ : ∃ y_ : List Int, y_ = (([] : List Int)) := ⟨_, rfl⟩
 replace H : (if y435.length + l0_1.length < 17592186044416 then ((some (([] : List (S127)) : List (S127))).bind fun y441 => (if y441.length + l0_2.length < 8796093022208 then (some (y432, (y435 ++ l0_1), (y441 ++ l0_2))) else (none))) else (none)) = some (r1, r2, r3) := by first | (rw [hy435]; with_reducible exact H) | (have H2_ := (Option.bind_some _ _).symm.trans H; rw [hy435]; with_reducible exact H2_) | (have H2_ := (Option.bind_some _ _).symm.trans H; with_reducible exact H2_) | with_reducible exact H | (rw [hy435]; exact H) | exact H
 have Ny435 := Aside0.mk hy435
 clear hy435
 by_cases c3 : y435.length + l0_1.length < 17592186044416
 rotate_left
 ·rw [if_neg c3] at H
  exact absurd H (by simp)
 rw [if_pos c3] at H
 have LMc3 := Aside0.mk c3
 clear c3
 obtain ⟨y438, hy438⟩ : ∃ y_ : List Int, y_ = (y435 ++ l0_1) := ⟨_, rfl⟩
 replace H : ((some (([] : List (S127)) : List (S127))).bind fun y441 => (if y441.length + l0_2.length < 8796093022208 then (some (y432, y438, (y441 ++ l0_2))) else (none))) = some (r1, r2, r3) := by first | (rw [hy438]; with_reducible exact H) | (have H2_ := (Option.bind_some _ _).symm.trans H; rw [hy438]; with_reducible exact H2_) | (have H2_ := (Option.bind_some _ _).symm.trans H; with_reducible exact H2_) | with_reducible exact H | (rw [hy438]; exact H) | exact H
 have Ny438 := Aside0.mk hy438
 clear hy438
 obtain ⟨y441, hy441⟩ : ∃ y_ : List (S127), y_ = (([] : List (S127))) := ⟨_, rfl⟩
 replace H : (if y441.length + l0_2.length < 8796093022208 then (some (y432, y438, (y441 ++ l0_2))) else (none)) = some (r1, r2, r3) := by first | (rw [hy441]; with_reducible exact H) | (have H2_ := (Option.bind_some _ _).symm.trans H; rw [hy441]; with_reducible exact H2_) | (have H2_ := (Option.bind_some _ _).symm.trans H; with_reducible exact H2_) | with_reducible exact H | (rw [hy441]; exact H) | exact H
 have Ny441 := Aside0.mk hy441
 clear hy441
 by_cases c4 : y441.length + l0_2.length < 8796093022208
 rotate_left
 ·rw [if_neg c4] at H
  exact absurd H (by simp)
 rw [if_pos c4] at H
 have LMc4 := Aside0.mk c4
 clear c4
 obtain ⟨y444, hy444⟩ : ∃ y_ : List (S127), y_ = (y441 ++ l0_2) := ⟨_, rfl⟩
 replace H : (some (y432, y438, y444)) = some (r1, r2, r3) := by first | (rw [hy444]; with_reducible exact H) | (have H2_ := (Option.bind_some _ _).symm.trans H; rw [hy444]; with_reducible exact H2_) | (have H2_ := (Option.bind_some _ _).symm.trans H; with_reducible exact H2_) | with_reducible exact H | (rw [hy444]; exact H) | exact H
 have Ny444 := Aside0.mk hy444
 clear hy444
 simp only [Option.some.injEq, Prod.mk.injEq] at H
 obtain ⟨rfl, rfl, rfl⟩ := H
 go_enter Try.func88, Try.ntmps88
 try go_wp2_with (first | ((with_reducible refine gate_dst (N := 1) rfl ?_); refine box_event ?hg (N := 1) ?hd (cs := #[.slice A0_0 l0_0.length c0_0, .slice A0_1 l0_1.length c0_1, .slice A0_2 l0_2.length c0_2]) (t := 47) ?hr ?_; (case hd => rfl); (case hg => rfl); (case hr => first | (go_simp; done) | (go_simp; rfl)); intro gb427 hg w5 hbox hb; have BK427 := Aside0.mk (hbox); have GW427 := gw_ hg HB; have GE427 := gw_ hg HB; replace HB := bst_ HB hb; clear hb hbox hg) | ((with_reducible refine gate_dst (N := 2) rfl ?_); refine box_event ?hg (N := 2) ?hd (cs := #[.slice none 0 0, .slice none 0 0, .slice none 0 0]) (t := 47) ?hr ?_; (case hd => rfl); (case hg => rfl); (case hr => first | (go_simp; done) | (go_simp; rfl)); intro gb428 hg w6 hbox hb; have BK428 := Aside0.mk (hbox); have GW428 := gw_ hg HB; have GE428 := gw_ hg HB; have NB427_428 := nl_ hg BK427; have NB428_427 := ng_ hg BK427; replace BK427 := bb_ BK427 hb; replace HB := bst_ HB hb; clear hb hbox hg))
 replace BK427 := bd_ BK427
 replace BK428 := bd_ BK428
 replace HB := Aside0.mk (below_drew1 HB.out)
 refine start_ (n := 14) (S := fun w' => w'.cell? ⟨gb427, 0, none⟩ = some (.slice A0_0 l0_0.length c0_0) ∧ w'.cell? ⟨gb427, 1, none⟩ = some (.slice A0_1 l0_1.length c0_1) ∧ w'.cell? ⟨gb427, 2, none⟩ = some (.slice A0_2 l0_2.length c0_2)) (ds := []) (bs 14 0) (by kernel_rfl) rfl rfl ⟨bc_ BK427 0, bc_ BK427 1, bc_ BK427 2⟩ (fun hHeld => ?_); refine with_tabW spec_l3Own.tab1 spec_l3Own.bits1 (fun HT_ HW_ => ?_)
 generalize w6.drew = w7 at BK427 BK428 HB hHeld ⊢
 refine pu_ 1 4 (bs 14 2) HT_ ?_
 refine pu_ 5 8 (bs 14 34) HT_ ?_
 refine pu_ 9 12 (bs 14 546) HT_ ?_
 refine tk_ 2 5 (bs 14 550) HT_ HW_ hHeld ?_
 refine tk_ 6 9 (bs 14 614) HT_ HW_ hHeld ?_
 refine tk_ 10 13 (bs 14 1638) HT_ HW_ hHeld ?_
 refine join_ (σ := Value × Value × Value × Value × Value) 3 (bs 14 2047) (fun s_ => [(3, s_.1), (6, s_.2.1), (7, s_.2.2.1), (10, s_.2.2.2.1), (11, s_.2.2.2.2)]) (fun s_ w' => (w'.cell? ⟨gb427, 0, none⟩ = some (.slice A0_0 l0_0.length c0_0) ∧ w'.cell? ⟨gb427, 1, none⟩ = some (.slice A0_1 l0_1.length c0_1) ∧ w'.cell? ⟨gb427, 2, none⟩ = some (.slice A0_2 l0_2.length c0_2)) ∧ (Kd.R (Kd.int .i64) 3 w' w.heap.size (fun k_ => no_ s_.2.2.2.1 k_) s_.2.1 y432) ∧ (Kd.R (Kd.int .i64) 3 w' w.heap.size (fun k_ => no_ s_.2.1 k_) s_.2.2.2.1 y438) ∧ (Kd.R k127 127 w' w.heap.size (fun _ => True) s_.2.2.2.2 y441) ∧ (w'.heap[gb427]? = some (.cells #[.slice A0_0 l0_0.length c0_0, .slice A0_1 l0_1.length c0_1, .slice A0_2 l0_2.length c0_2] 47 (0, 0))) ∧ (w'.heap[gb428]? = some (.cells #[.slice none 0 0, .slice none 0 0, .slice none 0 0] 47 (0, 0))) ∧ (Below w.heap.size w w')) ?_ ?_
 rotate_left
 ·intro hJ0_3_4_7_8
  refine join_ (σ := Value × Value × Value × Value) 4 (bs 14 1791) (fun s_ => [(3, s_.1), (6, s_.2.1), (7, s_.2.2.1), (10, s_.2.2.2)]) (fun s_ w' => (w'.cell? ⟨gb427, 0, none⟩ = some (.slice A0_0 l0_0.length c0_0) ∧ w'.cell? ⟨gb427, 1, none⟩ = some (.slice A0_1 l0_1.length c0_1) ∧ w'.cell? ⟨gb427, 2, none⟩ = some (.slice A0_2 l0_2.length c0_2)) ∧ (Kd.R (Kd.int .i64) 3 w' w.heap.size (fun k_ => no_ s_.2.2.2 k_) s_.2.1 y432) ∧ (Kd.R (Kd.int .i64) 3 w' w.heap.size (fun k_ => no_ s_.2.1 k_) s_.2.2.2 y438) ∧ (w'.heap[gb427]? = some (.cells #[.slice A0_0 l0_0.length c0_0, .slice A0_1 l0_1.length c0_1, .slice A0_2 l0_2.length c0_2] 47 (0, 0))) ∧ (w'.heap[gb428]? = some (.cells #[.slice none 0 0, .slice none 0 0, .slice none 0 0] 47 (0, 0))) ∧ (Below w.heap.size w w')) ?_ ?_
  rotate_left
  rotate_left
  ·skip
   rintro ⟨v430, v433, v436, v439⟩ w14 ⟨hS_, h0_, h1_, h2_, h3_, h4_⟩
   try dsimp only at h0_ h1_ h2_ h3_ h4_
   have HO434 := Aside0.mk h0_
   have HO440 := Aside0.mk h1_
   replace BK427 := Aside0.mk h2_
   replace BK428 := Aside0.mk h3_
   replace HB := Aside0.mk h4_
   clear h0_ h1_ h2_ h3_ h4_
   have hHeld : w14.cell? ⟨gb427, 0, none⟩ = some (.slice A0_0 l0_0.length c0_0) ∧ w14.cell? ⟨gb427, 1, none⟩ = some (.slice A0_1 l0_1.length c0_1) ∧ w14.cell? ⟨gb427, 2, none⟩ = some (.slice A0_2 l0_2.length c0_2) := hS_
   refine norm_ (a' := ?_) ?_ ?_
   rotate_left
   ·simp only [putAll, Act.put, List.setIfInBounds_toArray, List.set_cons_zero, List.set_cons_succ]
    rfl
   refine one_ (i := 8) (N := some 11) (bs 14 2047) rfl rfl (one_of HT_.out (by kernel_rfl)) (by decide) (fun K hK => ?_)
   refine Kd.R_lit_step k127 _ 127 ?hg (N := 11) ?hd (xs := ([] : List (S127))) (inner := []) (ok := fun _ => True) (okp := fun _ => True) ?hr ?hp (fun _ hk => hk) trivial (Below.refl _ _) (Nat.le_refl _) (by simp) ?_; (case hd => rfl); (case hg => rfl); (case hr => first | (go_simp; done) | (go_simp; rfl)); (case hp => exact (Reps.none _ _))
   intro v442 w15 ho16 hb hg_ hnew_
   clear hg_ hnew_
   (first | rw [← Ny441.out] at ho16 | (simp only [Int.reduceToNat] at ho16; rw [← Ny441.out] at ho16))
   have HO443 := Aside0.mk (Kd.R_lower ho16 (below_size (hB HB)))
   replace HO434 := rb_ HO434 hb
   replace HO440 := rb_ HO440 hb
   replace BK427 := bb_ BK427 hb
   replace BK428 := bb_ BK428 hb
   replace HB := bst_ HB hb
   clear hb ho16
   refine hK.out _ _ ⟨bc_ BK427 0, bc_ BK427 1, bc_ BK427 2⟩ (fun hHeld => ?_)
   clear hK K
   refine nm_ 11 ?_
   exact norm_ (by first | (simp only [putAll, Act.put, List.setIfInBounds_toArray, List.set_cons_zero, List.set_cons_succ]; done) | (simp only [putAll, Act.put, List.setIfInBounds_toArray, List.set_cons_zero, List.set_cons_succ]; rfl)) (hJ0_3_4_7_8 (v430, v433, v436, v439, v442) _ ⟨hHeld, (ra HO434.out), (ra HO440.out), (ra HO443.out), (ba BK427.out), (ba BK428.out), (hB HB)⟩)
  intro hJ0_3_4_7
  refine join_ (σ := Value × Value × Value × Value) 4 (bs 14 1919) (fun s_ => [(3, s_.1), (6, s_.2.1), (7, s_.2.2.1), (11, s_.2.2.2)]) (fun s_ w' => (w'.cell? ⟨gb427, 0, none⟩ = some (.slice A0_0 l0_0.length c0_0) ∧ w'.cell? ⟨gb427, 1, none⟩ = some (.slice A0_1 l0_1.length c0_1) ∧ w'.cell? ⟨gb427, 2, none⟩ = some (.slice A0_2 l0_2.length c0_2)) ∧ (Kd.R (Kd.int .i64) 3 w' w.heap.size (fun k_ => no_ s_.2.2.1 k_) s_.2.1 y432) ∧ (Kd.R (Kd.int .i64) 3 w' w.heap.size (fun k_ => no_ s_.2.1 k_) s_.2.2.1 y435) ∧ (Kd.R k127 127 w' w.heap.size (fun _ => True) s_.2.2.2 y441) ∧ (w'.heap[gb427]? = some (.cells #[.slice A0_0 l0_0.length c0_0, .slice A0_1 l0_1.length c0_1, .slice A0_2 l0_2.length c0_2] 47 (0, 0))) ∧ (w'.heap[gb428]? = some (.cells #[.slice none 0 0, .slice none 0 0, .slice none 0 0] 47 (0, 0))) ∧ (Below w.heap.size w w')) ?_ ?_
  rotate_left
  rotate_left
  ·skip
   rintro ⟨v430, v433, v436, v442⟩ w15 ⟨hS_, h0_, h1_, h2_, h3_, h4_, h5_⟩
   try dsimp only at h0_ h1_ h2_ h3_ h4_ h5_
   have HO434 := Aside0.mk h0_
   have HO437 := Aside0.mk h1_
   have HO443 := Aside0.mk h2_
   replace BK427 := Aside0.mk h3_
   replace BK428 := Aside0.mk h4_
   replace HB := Aside0.mk h5_
   clear h0_ h1_ h2_ h3_ h4_ h5_
   have hHeld : w15.cell? ⟨gb427, 0, none⟩ = some (.slice A0_0 l0_0.length c0_0) ∧ w15.cell? ⟨gb427, 1, none⟩ = some (.slice A0_1 l0_1.length c0_1) ∧ w15.cell? ⟨gb427, 2, none⟩ = some (.slice A0_2 l0_2.length c0_2) := hS_
   refine norm_ (a' := ?_) ?_ ?_
   rotate_left
   ·simp only [putAll, Act.put, List.setIfInBounds_toArray, List.set_cons_zero, List.set_cons_succ]
    rfl
   refine one_ (i := 7) (N := some 10) (bs 14 2047) rfl rfl (one_of HT_.out (by kernel_rfl)) (by decide) (fun K hK => ?_)
   refine Kd.R_append_rows_step (Kd.int .i64) (w0 := w) w.heap.size (by rfl) (.tmp 7) (.tmp 9) 24 3 (.int .i64 0) 8 rfl Try.underlying24 info3 rfl (by decide) (by omega) v436 y435 l0_1 _ _ _ (fun k_ => no_ v433 k_) (fun _ => False) rfl rfl ?aO ?aR (fun _ _ h => h) (fun _ h => h.elim) ?aF ?aB ?aS ?aL ?_
   (case aR => exact ca (Kd.C_below HR0_1.out HB.out))
   (case aB => exact (hB HB))
   (case aF => exact (fun k_ hk => Kd.fresh' (rl_ HO434) k_ hk))
   (case aO => exact (ra HO437.out))
   (case aS => exact (below_size (hB HB)))
   (case aL => have := LMc3.out; omega)
   intro v439 w16 ho hb hg hat
   rw [← Ny438.out] at ho
   have HO440 := Aside0.mk (ho)
   replace BK427 := Aside0.mk (blk_grown (g := gb427) (o := .cells #[.slice A0_0 l0_0.length c0_0, .slice A0_1 l0_1.length c0_1, .slice A0_2 l0_2.length c0_2] 47 (0, 0)) (ba BK427.out) hg (Kd.R_ne HO437.out BK427.out (by decide)))
   replace BK428 := Aside0.mk (blk_grown (g := gb428) (o := .cells #[.slice none 0 0, .slice none 0 0, .slice none 0 0] 47 (0, 0)) (ba BK428.out) hg (Kd.R_ne HO437.out BK428.out (by decide)))
   replace HO434 := Aside0.mk (Kd.R_after (ok := (fun _ => True)) (rm_ HO434 (fun _ hk => ⟨trivial, hk⟩)).out hg hat)
   replace HO443 := Aside0.mk (Kd.R_over' (ra HO443.out) (Kd.R_typed (ra HO437.out)) (by decide) hg)
   replace HB := Aside0.mk (hb)
   clear HO437
   clear ho hb hg hat
   refine hK.out _ _ ⟨bc_ BK427 0, bc_ BK427 1, bc_ BK427 2⟩ (fun hHeld => ?_)
   clear hK K
   refine nm_ 10 ?_
   exact norm_ (by first | (simp only [putAll, Act.put, List.setIfInBounds_toArray, List.set_cons_zero, List.set_cons_succ]; done) | (simp only [putAll, Act.put, List.setIfInBounds_toArray, List.set_cons_zero, List.set_cons_succ]; rfl)) (hJ0_3_4_7_8 (v430, v433, v436, v439, v442) _ ⟨hHeld, (rm_ HO434 (fun _ hk => hk.2)).out, (ra HO440.out), (ra HO443.out), (ba BK427.out), (ba BK428.out), (hB HB)⟩)
  intro hJ0_3_4_8
  refine join_ (σ := Value × Value × Value) 5 (bs 14 1663) (fun s_ => [(3, s_.1), (6, s_.2.1), (7, s_.2.2)]) (fun s_ w' => (w'.cell? ⟨gb427, 0, none⟩ = some (.slice A0_0 l0_0.length c0_0) ∧ w'.cell? ⟨gb427, 1, none⟩ = some (.slice A0_1 l0_1.length c0_1) ∧ w'.cell? ⟨gb427, 2, none⟩ = some (.slice A0_2 l0_2.length c0_2)) ∧ (Kd.R (Kd.int .i64) 3 w' w.heap.size (fun k_ => no_ s_.2.2 k_) s_.2.1 y432) ∧ (Kd.R (Kd.int .i64) 3 w' w.heap.size (fun k_ => no_ s_.2.1 k_) s_.2.2 y435) ∧ (w'.heap[gb427]? = some (.cells #[.slice A0_0 l0_0.length c0_0, .slice A0_1 l0_1.length c0_1, .slice A0_2 l0_2.length c0_2] 47 (0, 0))) ∧ (w'.heap[gb428]? = some (.cells #[.slice none 0 0, .slice none 0 0, .slice none 0 0] 47 (0, 0))) ∧ (Below w.heap.size w w')) ?_ ?_
  rotate_left
  rotate_left
  ·skip
   rintro ⟨v430, v433, v436⟩ w13 ⟨hS_, h0_, h1_, h2_, h3_, h4_⟩
   try dsimp only at h0_ h1_ h2_ h3_ h4_
   have HO434 := Aside0.mk h0_
   have HO437 := Aside0.mk h1_
   replace BK427 := Aside0.mk h2_
   replace BK428 := Aside0.mk h3_
   replace HB := Aside0.mk h4_
   clear h0_ h1_ h2_ h3_ h4_
   have hHeld : w13.cell? ⟨gb427, 0, none⟩ = some (.slice A0_0 l0_0.length c0_0) ∧ w13.cell? ⟨gb427, 1, none⟩ = some (.slice A0_1 l0_1.length c0_1) ∧ w13.cell? ⟨gb427, 2, none⟩ = some (.slice A0_2 l0_2.length c0_2) := hS_
   refine norm_ (a' := ?_) ?_ ?_
   rotate_left
   ·simp only [putAll, Act.put, List.setIfInBounds_toArray, List.set_cons_zero, List.set_cons_succ]
    rfl
   refine two_ (i := 7) (j := 8) (Ni := some 10) (Nj := some 11) (bs 14 1791) (bs 14 1919) rfl rfl rfl rfl (two_of HT_.out (by kernel_rfl)) (by decide) (by decide) (fun K hK => ?_) (fun K hK => ?_)
   rotate_left
   ·skip
    refine Kd.R_lit_step k127 _ 127 ?hg (N := 11) ?hd (xs := ([] : List (S127))) (inner := []) (ok := fun _ => True) (okp := fun _ => True) ?hr ?hp (fun _ hk => hk) trivial (Below.refl _ _) (Nat.le_refl _) (by simp) ?_; (case hd => rfl); (case hg => rfl); (case hr => first | (go_simp; done) | (go_simp; rfl)); (case hp => exact (Reps.none _ _))
    intro v442 w14 ho15 hb hg_ hnew_
    clear hg_ hnew_
    (first | rw [← Ny441.out] at ho15 | (simp only [Int.reduceToNat] at ho15; rw [← Ny441.out] at ho15))
    have HO443 := Aside0.mk (Kd.R_lower ho15 (below_size (hB HB)))
    replace HO434 := rb_ HO434 hb
    replace HO437 := rb_ HO437 hb
    replace BK427 := bb_ BK427 hb
    replace BK428 := bb_ BK428 hb
    replace HB := bst_ HB hb
    clear hb ho15
    refine hK.out _ _ ⟨bc_ BK427 0, bc_ BK427 1, bc_ BK427 2⟩ (fun hHeld => ?_)
    clear hK K
    refine nm_ 11 ?_
    exact norm_ (by first | (simp only [putAll, Act.put, List.setIfInBounds_toArray, List.set_cons_zero, List.set_cons_succ]; done) | (simp only [putAll, Act.put, List.setIfInBounds_toArray, List.set_cons_zero, List.set_cons_succ]; rfl)) (hJ0_3_4_8 (v430, v433, v436, v442) _ ⟨hHeld, (ra HO434.out), (ra HO437.out), (ra HO443.out), (ba BK427.out), (ba BK428.out), (hB HB)⟩)
   skip
   refine Kd.R_append_rows_step (Kd.int .i64) (w0 := w) w.heap.size (by rfl) (.tmp 7) (.tmp 9) 24 3 (.int .i64 0) 8 rfl Try.underlying24 info3 rfl (by decide) (by omega) v436 y435 l0_1 _ _ _ (fun k_ => no_ v433 k_) (fun _ => False) rfl rfl ?aO ?aR (fun _ _ h => h) (fun _ h => h.elim) ?aF ?aB ?aS ?aL ?_
   (case aR => exact ca (Kd.C_below HR0_1.out HB.out))
   (case aB => exact (hB HB))
   (case aF => exact (fun k_ hk => Kd.fresh' (rl_ HO434) k_ hk))
   (case aO => exact (ra HO437.out))
   (case aS => exact (below_size (hB HB)))
   (case aL => have := LMc3.out; omega)
   intro v439 w14 ho hb hg hat
   rw [← Ny438.out] at ho
   have HO440 := Aside0.mk (ho)
   replace BK427 := Aside0.mk (blk_grown (g := gb427) (o := .cells #[.slice A0_0 l0_0.length c0_0, .slice A0_1 l0_1.length c0_1, .slice A0_2 l0_2.length c0_2] 47 (0, 0)) (ba BK427.out) hg (Kd.R_ne HO437.out BK427.out (by decide)))
   replace BK428 := Aside0.mk (blk_grown (g := gb428) (o := .cells #[.slice none 0 0, .slice none 0 0, .slice none 0 0] 47 (0, 0)) (ba BK428.out) hg (Kd.R_ne HO437.out BK428.out (by decide)))
   replace HO434 := Aside0.mk (Kd.R_after (ok := (fun _ => True)) (rm_ HO434 (fun _ hk => ⟨trivial, hk⟩)).out hg hat)
   replace HB := Aside0.mk (hb)
   clear HO437
   clear ho hb hg hat
   refine hK.out _ _ ⟨bc_ BK427 0, bc_ BK427 1, bc_ BK427 2⟩ (fun hHeld => ?_)
   clear hK K
   refine nm_ 10 ?_
   exact norm_ (by first | (simp only [putAll, Act.put, List.setIfInBounds_toArray, List.set_cons_zero, List.set_cons_succ]; done) | (simp only [putAll, Act.put, List.setIfInBounds_toArray, List.set_cons_zero, List.set_cons_succ]; rfl)) (hJ0_3_4_7 (v430, v433, v436, v439) _ ⟨hHeld, (rm_ HO434 (fun _ hk => hk.2)).out, (ra HO440.out), (ba BK427.out), (ba BK428.out), (hB HB)⟩)
  intro hJ0_3_4
  refine join_ (σ := Value × Value × Value) 5 (bs 14 1903) (fun s_ => [(3, s_.1), (6, s_.2.1), (11, s_.2.2)]) (fun s_ w' => (w'.cell? ⟨gb427, 0, none⟩ = some (.slice A0_0 l0_0.length c0_0) ∧ w'.cell? ⟨gb427, 1, none⟩ = some (.slice A0_1 l0_1.length c0_1) ∧ w'.cell? ⟨gb427, 2, none⟩ = some (.slice A0_2 l0_2.length c0_2)) ∧ (Kd.R (Kd.int .i64) 3 w' w.heap.size (fun _ => True) s_.2.1 y432) ∧ (Kd.R k127 127 w' w.heap.size (fun _ => True) s_.2.2 y441) ∧ (w'.heap[gb427]? = some (.cells #[.slice A0_0 l0_0.length c0_0, .slice A0_1 l0_1.length c0_1, .slice A0_2 l0_2.length c0_2] 47 (0, 0))) ∧ (w'.heap[gb428]? = some (.cells #[.slice none 0 0, .slice none 0 0, .slice none 0 0] 47 (0, 0))) ∧ (Below w.heap.size w w')) ?_ ?_
  rotate_left
  rotate_left
  ·skip
   rintro ⟨v430, v433, v442⟩ w13 ⟨hS_, h0_, h1_, h2_, h3_, h4_⟩
   try dsimp only at h0_ h1_ h2_ h3_ h4_
   have HO434 := Aside0.mk h0_
   have HO443 := Aside0.mk h1_
   replace BK427 := Aside0.mk h2_
   replace BK428 := Aside0.mk h3_
   replace HB := Aside0.mk h4_
   clear h0_ h1_ h2_ h3_ h4_
   have hHeld : w13.cell? ⟨gb427, 0, none⟩ = some (.slice A0_0 l0_0.length c0_0) ∧ w13.cell? ⟨gb427, 1, none⟩ = some (.slice A0_1 l0_1.length c0_1) ∧ w13.cell? ⟨gb427, 2, none⟩ = some (.slice A0_2 l0_2.length c0_2) := hS_
   refine norm_ (a' := ?_) ?_ ?_
   rotate_left
   ·simp only [putAll, Act.put, List.setIfInBounds_toArray, List.set_cons_zero, List.set_cons_succ]
    rfl
   refine one_ (i := 4) (N := some 7) (bs 14 1919) rfl rfl (one_of HT_.out (by kernel_rfl)) (by decide) (fun K hK => ?_)
   refine Kd.R_lit_step (Kd.int .i64) _ 3 ?hg (N := 7) ?hd (xs := ([] : List Int)) (inner := []) (ok := fun _ => True) (okp := fun _ => True) ?hr ?hp (fun _ hk => hk) trivial (Below.refl _ _) (Nat.le_refl _) (by simp) ?_; (case hd => rfl); (case hg => rfl); (case hr => first | (go_simp; done) | (go_simp; rfl)); (case hp => exact (Reps.none _ _))
   intro v436 w14 ho15 hb hg_ hnew_
   clear hg_ hnew_
   (first | rw [← Ny435.out] at ho15 | (simp only [Int.reduceToNat] at ho15; rw [← Ny435.out] at ho15))
   have HO437 := Aside0.mk (Kd.R_lower (Kd.R_new' ho15 (rl_ HO434)) (below_size (hB HB)))
   replace HO434 := re_ HO434 ho15 hb
   replace HO443 := rb_ HO443 hb
   replace BK427 := bb_ BK427 hb
   replace BK428 := bb_ BK428 hb
   replace HB := bst_ HB hb
   clear hb ho15
   refine hK.out _ _ ⟨bc_ BK427 0, bc_ BK427 1, bc_ BK427 2⟩ (fun hHeld => ?_)
   clear hK K
   refine nm_ 7 ?_
   exact norm_ (by first | (simp only [putAll, Act.put, List.setIfInBounds_toArray, List.set_cons_zero, List.set_cons_succ]; done) | (simp only [putAll, Act.put, List.setIfInBounds_toArray, List.set_cons_zero, List.set_cons_succ]; rfl)) (hJ0_3_4_8 (v430, v433, v436, v442) _ ⟨hHeld, (rm_ HO434 (fun _ hk => hk.2)).out, (rm_ HO437 (fun _ hk => hk.2)).out, (ra HO443.out), (ba BK427.out), (ba BK428.out), (hB HB)⟩)
  intro hJ0_3_8
  refine join_ (σ := Value × Value × Value) 5 (bs 14 1911) (fun s_ => [(3, s_.1), (7, s_.2.1), (11, s_.2.2)]) (fun s_ w' => (w'.cell? ⟨gb427, 0, none⟩ = some (.slice A0_0 l0_0.length c0_0) ∧ w'.cell? ⟨gb427, 1, none⟩ = some (.slice A0_1 l0_1.length c0_1) ∧ w'.cell? ⟨gb427, 2, none⟩ = some (.slice A0_2 l0_2.length c0_2)) ∧ (Kd.R (Kd.int .i64) 3 w' w.heap.size (fun k_ => no_ s_.2.1 k_) s_.1 y429) ∧ (Kd.R (Kd.int .i64) 3 w' w.heap.size (fun k_ => no_ s_.1 k_) s_.2.1 y435) ∧ (Kd.R k127 127 w' w.heap.size (fun _ => True) s_.2.2 y441) ∧ (w'.heap[gb427]? = some (.cells #[.slice A0_0 l0_0.length c0_0, .slice A0_1 l0_1.length c0_1, .slice A0_2 l0_2.length c0_2] 47 (0, 0))) ∧ (w'.heap[gb428]? = some (.cells #[.slice none 0 0, .slice none 0 0, .slice none 0 0] 47 (0, 0))) ∧ (Below w.heap.size w w')) ?_ ?_
  rotate_left
  rotate_left
  ·skip
   rintro ⟨v430, v436, v442⟩ w14 ⟨hS_, h0_, h1_, h2_, h3_, h4_, h5_⟩
   try dsimp only at h0_ h1_ h2_ h3_ h4_ h5_
   have HO431 := Aside0.mk h0_
   have HO437 := Aside0.mk h1_
   have HO443 := Aside0.mk h2_
   replace BK427 := Aside0.mk h3_
   replace BK428 := Aside0.mk h4_
   replace HB := Aside0.mk h5_
   clear h0_ h1_ h2_ h3_ h4_ h5_
   have hHeld : w14.cell? ⟨gb427, 0, none⟩ = some (.slice A0_0 l0_0.length c0_0) ∧ w14.cell? ⟨gb427, 1, none⟩ = some (.slice A0_1 l0_1.length c0_1) ∧ w14.cell? ⟨gb427, 2, none⟩ = some (.slice A0_2 l0_2.length c0_2) := hS_
   refine norm_ (a' := ?_) ?_ ?_
   rotate_left
   ·simp only [putAll, Act.put, List.setIfInBounds_toArray, List.set_cons_zero, List.set_cons_succ]
    rfl
   refine one_ (i := 3) (N := some 6) (bs 14 1919) rfl rfl (one_of HT_.out (by kernel_rfl)) (by decide) (fun K hK => ?_)
   refine Kd.R_append_rows_step (Kd.int .i64) (w0 := w) w.heap.size (by rfl) (.tmp 3) (.tmp 5) 24 3 (.int .i64 0) 8 rfl Try.underlying24 info3 rfl (by decide) (by omega) v430 y429 l0_0 _ _ _ (fun k_ => no_ v436 k_) (fun _ => False) rfl rfl ?aO ?aR (fun _ _ h => h) (fun _ h => h.elim) ?aF ?aB ?aS ?aL ?_
   (case aR => exact ca (Kd.C_below HR0_0.out HB.out))
   (case aB => exact (hB HB))
   (case aF => exact (fun k_ hk => Kd.fresh' (rl_ HO437) k_ hk))
   (case aO => exact (ra HO431.out))
   (case aS => exact (below_size (hB HB)))
   (case aL => have := LMc2.out; omega)
   intro v433 w15 ho hb hg hat
   rw [← Ny432.out] at ho
   have HO434 := Aside0.mk (ho)
   replace BK427 := Aside0.mk (blk_grown (g := gb427) (o := .cells #[.slice A0_0 l0_0.length c0_0, .slice A0_1 l0_1.length c0_1, .slice A0_2 l0_2.length c0_2] 47 (0, 0)) (ba BK427.out) hg (Kd.R_ne HO431.out BK427.out (by decide)))
   replace BK428 := Aside0.mk (blk_grown (g := gb428) (o := .cells #[.slice none 0 0, .slice none 0 0, .slice none 0 0] 47 (0, 0)) (ba BK428.out) hg (Kd.R_ne HO431.out BK428.out (by decide)))
   replace HO437 := Aside0.mk (Kd.R_after (ok := (fun _ => True)) (rm_ HO437 (fun _ hk => ⟨trivial, hk⟩)).out hg hat)
   replace HO443 := Aside0.mk (Kd.R_over' (ra HO443.out) (Kd.R_typed (ra HO431.out)) (by decide) hg)
   replace HB := Aside0.mk (hb)
   clear HO431
   clear ho hb hg hat
   refine hK.out _ _ ⟨bc_ BK427 0, bc_ BK427 1, bc_ BK427 2⟩ (fun hHeld => ?_)
   clear hK K
   refine nm_ 6 ?_
   exact norm_ (by first | (simp only [putAll, Act.put, List.setIfInBounds_toArray, List.set_cons_zero, List.set_cons_succ]; done) | (simp only [putAll, Act.put, List.setIfInBounds_toArray, List.set_cons_zero, List.set_cons_succ]; rfl)) (hJ0_3_4_8 (v430, v433, v436, v442) _ ⟨hHeld, (ra HO434.out), (rm_ HO437 (fun _ hk => hk.2)).out, (ra HO443.out), (ba BK427.out), (ba BK428.out), (hB HB)⟩)
  intro hJ0_4_8
  refine join_ (σ := Value × Value) 6 (bs 14 1647) (fun s_ => [(3, s_.1), (6, s_.2)]) (fun s_ w' => (w'.cell? ⟨gb427, 0, none⟩ = some (.slice A0_0 l0_0.length c0_0) ∧ w'.cell? ⟨gb427, 1, none⟩ = some (.slice A0_1 l0_1.length c0_1) ∧ w'.cell? ⟨gb427, 2, none⟩ = some (.slice A0_2 l0_2.length c0_2)) ∧ (Kd.R (Kd.int .i64) 3 w' w.heap.size (fun _ => True) s_.2 y432) ∧ (w'.heap[gb427]? = some (.cells #[.slice A0_0 l0_0.length c0_0, .slice A0_1 l0_1.length c0_1, .slice A0_2 l0_2.length c0_2] 47 (0, 0))) ∧ (w'.heap[gb428]? = some (.cells #[.slice none 0 0, .slice none 0 0, .slice none 0 0] 47 (0, 0))) ∧ (Below w.heap.size w w')) ?_ ?_
  rotate_left
  rotate_left
  ·skip
   rintro ⟨v430, v433⟩ w11 ⟨hS_, h0_, h1_, h2_, h3_⟩
   try dsimp only at h0_ h1_ h2_ h3_
   have HO434 := Aside0.mk h0_
   replace BK427 := Aside0.mk h1_
   replace BK428 := Aside0.mk h2_
   replace HB := Aside0.mk h3_
   clear h0_ h1_ h2_ h3_
   have hHeld : w11.cell? ⟨gb427, 0, none⟩ = some (.slice A0_0 l0_0.length c0_0) ∧ w11.cell? ⟨gb427, 1, none⟩ = some (.slice A0_1 l0_1.length c0_1) ∧ w11.cell? ⟨gb427, 2, none⟩ = some (.slice A0_2 l0_2.length c0_2) := hS_
   refine norm_ (a' := ?_) ?_ ?_
   rotate_left
   ·simp only [putAll, Act.put, List.setIfInBounds_toArray, List.set_cons_zero, List.set_cons_succ]
    rfl
   refine two_ (i := 4) (j := 8) (Ni := some 7) (Nj := some 11) (bs 14 1663) (bs 14 1903) rfl rfl rfl rfl (two_of HT_.out (by kernel_rfl)) (by decide) (by decide) (fun K hK => ?_) (fun K hK => ?_)
   rotate_left
   ·skip
    refine Kd.R_lit_step k127 _ 127 ?hg (N := 11) ?hd (xs := ([] : List (S127))) (inner := []) (ok := fun _ => True) (okp := fun _ => True) ?hr ?hp (fun _ hk => hk) trivial (Below.refl _ _) (Nat.le_refl _) (by simp) ?_; (case hd => rfl); (case hg => rfl); (case hr => first | (go_simp; done) | (go_simp; rfl)); (case hp => exact (Reps.none _ _))
    intro v442 w12 ho13 hb hg_ hnew_
    clear hg_ hnew_
    (first | rw [← Ny441.out] at ho13 | (simp only [Int.reduceToNat] at ho13; rw [← Ny441.out] at ho13))
    have HO443 := Aside0.mk (Kd.R_lower ho13 (below_size (hB HB)))
    replace HO434 := rb_ HO434 hb
    replace BK427 := bb_ BK427 hb
    replace BK428 := bb_ BK428 hb
    replace HB := bst_ HB hb
    clear hb ho13
    refine hK.out _ _ ⟨bc_ BK427 0, bc_ BK427 1, bc_ BK427 2⟩ (fun hHeld => ?_)
    clear hK K
    refine nm_ 11 ?_
    exact norm_ (by first | (simp only [putAll, Act.put, List.setIfInBounds_toArray, List.set_cons_zero, List.set_cons_succ]; done) | (simp only [putAll, Act.put, List.setIfInBounds_toArray, List.set_cons_zero, List.set_cons_succ]; rfl)) (hJ0_3_8 (v430, v433, v442) _ ⟨hHeld, (ra HO434.out), (ra HO443.out), (ba BK427.out), (ba BK428.out), (hB HB)⟩)
   skip
   refine Kd.R_lit_step (Kd.int .i64) _ 3 ?hg (N := 7) ?hd (xs := ([] : List Int)) (inner := []) (ok := fun _ => True) (okp := fun _ => True) ?hr ?hp (fun _ hk => hk) trivial (Below.refl _ _) (Nat.le_refl _) (by simp) ?_; (case hd => rfl); (case hg => rfl); (case hr => first | (go_simp; done) | (go_simp; rfl)); (case hp => exact (Reps.none _ _))
   intro v436 w12 ho13 hb hg_ hnew_
   clear hg_ hnew_
   (first | rw [← Ny435.out] at ho13 | (simp only [Int.reduceToNat] at ho13; rw [← Ny435.out] at ho13))
   have HO437 := Aside0.mk (Kd.R_lower (Kd.R_new' ho13 (rl_ HO434)) (below_size (hB HB)))
   replace HO434 := re_ HO434 ho13 hb
   replace BK427 := bb_ BK427 hb
   replace BK428 := bb_ BK428 hb
   replace HB := bst_ HB hb
   clear hb ho13
   refine hK.out _ _ ⟨bc_ BK427 0, bc_ BK427 1, bc_ BK427 2⟩ (fun hHeld => ?_)
   clear hK K
   refine nm_ 7 ?_
   exact norm_ (by first | (simp only [putAll, Act.put, List.setIfInBounds_toArray, List.set_cons_zero, List.set_cons_succ]; done) | (simp only [putAll, Act.put, List.setIfInBounds_toArray, List.set_cons_zero, List.set_cons_succ]; rfl)) (hJ0_3_4 (v430, v433, v436) _ ⟨hHeld, (rm_ HO434 (fun _ hk => hk.2)).out, (rm_ HO437 (fun _ hk => hk.2)).out, (ba BK427.out), (ba BK428.out), (hB HB)⟩)
  intro hJ0_3
  refine join_ (σ := Value × Value) 6 (bs 14 1655) (fun s_ => [(3, s_.1), (7, s_.2)]) (fun s_ w' => (w'.cell? ⟨gb427, 0, none⟩ = some (.slice A0_0 l0_0.length c0_0) ∧ w'.cell? ⟨gb427, 1, none⟩ = some (.slice A0_1 l0_1.length c0_1) ∧ w'.cell? ⟨gb427, 2, none⟩ = some (.slice A0_2 l0_2.length c0_2)) ∧ (Kd.R (Kd.int .i64) 3 w' w.heap.size (fun k_ => no_ s_.2 k_) s_.1 y429) ∧ (Kd.R (Kd.int .i64) 3 w' w.heap.size (fun k_ => no_ s_.1 k_) s_.2 y435) ∧ (w'.heap[gb427]? = some (.cells #[.slice A0_0 l0_0.length c0_0, .slice A0_1 l0_1.length c0_1, .slice A0_2 l0_2.length c0_2] 47 (0, 0))) ∧ (w'.heap[gb428]? = some (.cells #[.slice none 0 0, .slice none 0 0, .slice none 0 0] 47 (0, 0))) ∧ (Below w.heap.size w w')) ?_ ?_
  rotate_left
  rotate_left
  ·skip
   rintro ⟨v430, v436⟩ w12 ⟨hS_, h0_, h1_, h2_, h3_, h4_⟩
   try dsimp only at h0_ h1_ h2_ h3_ h4_
   have HO431 := Aside0.mk h0_
   have HO437 := Aside0.mk h1_
   replace BK427 := Aside0.mk h2_
   replace BK428 := Aside0.mk h3_
   replace HB := Aside0.mk h4_
   clear h0_ h1_ h2_ h3_ h4_
   have hHeld : w12.cell? ⟨gb427, 0, none⟩ = some (.slice A0_0 l0_0.length c0_0) ∧ w12.cell? ⟨gb427, 1, none⟩ = some (.slice A0_1 l0_1.length c0_1) ∧ w12.cell? ⟨gb427, 2, none⟩ = some (.slice A0_2 l0_2.length c0_2) := hS_
   refine norm_ (a' := ?_) ?_ ?_
   rotate_left
   ·simp only [putAll, Act.put, List.setIfInBounds_toArray, List.set_cons_zero, List.set_cons_succ]
    rfl
   refine two_ (i := 3) (j := 8) (Ni := some 6) (Nj := some 11) (bs 14 1663) (bs 14 1911) rfl rfl rfl rfl (two_of HT_.out (by kernel_rfl)) (by decide) (by decide) (fun K hK => ?_) (fun K hK => ?_)
   rotate_left
   ·skip
    refine Kd.R_lit_step k127 _ 127 ?hg (N := 11) ?hd (xs := ([] : List (S127))) (inner := []) (ok := fun _ => True) (okp := fun _ => True) ?hr ?hp (fun _ hk => hk) trivial (Below.refl _ _) (Nat.le_refl _) (by simp) ?_; (case hd => rfl); (case hg => rfl); (case hr => first | (go_simp; done) | (go_simp; rfl)); (case hp => exact (Reps.none _ _))
    intro v442 w13 ho14 hb hg_ hnew_
    clear hg_ hnew_
    (first | rw [← Ny441.out] at ho14 | (simp only [Int.reduceToNat] at ho14; rw [← Ny441.out] at ho14))
    have HO443 := Aside0.mk (Kd.R_lower ho14 (below_size (hB HB)))
    replace HO431 := rb_ HO431 hb
    replace HO437 := rb_ HO437 hb
    replace BK427 := bb_ BK427 hb
    replace BK428 := bb_ BK428 hb
    replace HB := bst_ HB hb
    clear hb ho14
    refine hK.out _ _ ⟨bc_ BK427 0, bc_ BK427 1, bc_ BK427 2⟩ (fun hHeld => ?_)
    clear hK K
    refine nm_ 11 ?_
    exact norm_ (by first | (simp only [putAll, Act.put, List.setIfInBounds_toArray, List.set_cons_zero, List.set_cons_succ]; done) | (simp only [putAll, Act.put, List.setIfInBounds_toArray, List.set_cons_zero, List.set_cons_succ]; rfl)) (hJ0_4_8 (v430, v436, v442) _ ⟨hHeld, (ra HO431.out), (ra HO437.out), (ra HO443.out), (ba BK427.out), (ba BK428.out), (hB HB)⟩)
   skip
   refine Kd.R_append_rows_step (Kd.int .i64) (w0 := w) w.heap.size (by rfl) (.tmp 3) (.tmp 5) 24 3 (.int .i64 0) 8 rfl Try.underlying24 info3 rfl (by decide) (by omega) v430 y429 l0_0 _ _ _ (fun k_ => no_ v436 k_) (fun _ => False) rfl rfl ?aO ?aR (fun _ _ h => h) (fun _ h => h.elim) ?aF ?aB ?aS ?aL ?_
   (case aR => exact ca (Kd.C_below HR0_0.out HB.out))
   (case aB => exact (hB HB))
   (case aF => exact (fun k_ hk => Kd.fresh' (rl_ HO437) k_ hk))
   (case aO => exact (ra HO431.out))
   (case aS => exact (below_size (hB HB)))
   (case aL => have := LMc2.out; omega)
   intro v433 w13 ho hb hg hat
   rw [← Ny432.out] at ho
   have HO434 := Aside0.mk (ho)
   replace BK427 := Aside0.mk (blk_grown (g := gb427) (o := .cells #[.slice A0_0 l0_0.length c0_0, .slice A0_1 l0_1.length c0_1, .slice A0_2 l0_2.length c0_2] 47 (0, 0)) (ba BK427.out) hg (Kd.R_ne HO431.out BK427.out (by decide)))
   replace BK428 := Aside0.mk (blk_grown (g := gb428) (o := .cells #[.slice none 0 0, .slice none 0 0, .slice none 0 0] 47 (0, 0)) (ba BK428.out) hg (Kd.R_ne HO431.out BK428.out (by decide)))
   replace HO437 := Aside0.mk (Kd.R_after (ok := (fun _ => True)) (rm_ HO437 (fun _ hk => ⟨trivial, hk⟩)).out hg hat)
   replace HB := Aside0.mk (hb)
   clear HO431
   clear ho hb hg hat
   refine hK.out _ _ ⟨bc_ BK427 0, bc_ BK427 1, bc_ BK427 2⟩ (fun hHeld => ?_)
   clear hK K
   refine nm_ 6 ?_
   exact norm_ (by first | (simp only [putAll, Act.put, List.setIfInBounds_toArray, List.set_cons_zero, List.set_cons_succ]; done) | (simp only [putAll, Act.put, List.setIfInBounds_toArray, List.set_cons_zero, List.set_cons_succ]; rfl)) (hJ0_3_4 (v430, v433, v436) _ ⟨hHeld, (ra HO434.out), (rm_ HO437 (fun _ hk => hk.2)).out, (ba BK427.out), (ba BK428.out), (hB HB)⟩)
  intro hJ0_4
  refine join_ (σ := Value × Value) 6 (bs 14 1895) (fun s_ => [(3, s_.1), (11, s_.2)]) (fun s_ w' => (w'.cell? ⟨gb427, 0, none⟩ = some (.slice A0_0 l0_0.length c0_0) ∧ w'.cell? ⟨gb427, 1, none⟩ = some (.slice A0_1 l0_1.length c0_1) ∧ w'.cell? ⟨gb427, 2, none⟩ = some (.slice A0_2 l0_2.length c0_2)) ∧ (Kd.R (Kd.int .i64) 3 w' w.heap.size (fun _ => True) s_.1 y429) ∧ (Kd.R k127 127 w' w.heap.size (fun _ => True) s_.2 y441) ∧ (w'.heap[gb427]? = some (.cells #[.slice A0_0 l0_0.length c0_0, .slice A0_1 l0_1.length c0_1, .slice A0_2 l0_2.length c0_2] 47 (0, 0))) ∧ (w'.heap[gb428]? = some (.cells #[.slice none 0 0, .slice none 0 0, .slice none 0 0] 47 (0, 0))) ∧ (Below w.heap.size w w')) ?_ ?_
  rotate_left
  rotate_left
  ·skip
   rintro ⟨v430, v442⟩ w12 ⟨hS_, h0_, h1_, h2_, h3_, h4_⟩
   try dsimp only at h0_ h1_ h2_ h3_ h4_
   have HO431 := Aside0.mk h0_
   have HO443 := Aside0.mk h1_
   replace BK427 := Aside0.mk h2_
   replace BK428 := Aside0.mk h3_
   replace HB := Aside0.mk h4_
   clear h0_ h1_ h2_ h3_ h4_
   have hHeld : w12.cell? ⟨gb427, 0, none⟩ = some (.slice A0_0 l0_0.length c0_0) ∧ w12.cell? ⟨gb427, 1, none⟩ = some (.slice A0_1 l0_1.length c0_1) ∧ w12.cell? ⟨gb427, 2, none⟩ = some (.slice A0_2 l0_2.length c0_2) := hS_
   refine norm_ (a' := ?_) ?_ ?_
   rotate_left
   ·simp only [putAll, Act.put, List.setIfInBounds_toArray, List.set_cons_zero, List.set_cons_succ]
    rfl
   refine two_ (i := 3) (j := 4) (Ni := some 6) (Nj := some 7) (bs 14 1903) (bs 14 1911) rfl rfl rfl rfl (two_of HT_.out (by kernel_rfl)) (by decide) (by decide) (fun K hK => ?_) (fun K hK => ?_)
   rotate_left
   ·skip
    refine Kd.R_lit_step (Kd.int .i64) _ 3 ?hg (N := 7) ?hd (xs := ([] : List Int)) (inner := []) (ok := fun _ => True) (okp := fun _ => True) ?hr ?hp (fun _ hk => hk) trivial (Below.refl _ _) (Nat.le_refl _) (by simp) ?_; (case hd => rfl); (case hg => rfl); (case hr => first | (go_simp; done) | (go_simp; rfl)); (case hp => exact (Reps.none _ _))
    intro v436 w13 ho14 hb hg_ hnew_
    clear hg_ hnew_
    (first | rw [← Ny435.out] at ho14 | (simp only [Int.reduceToNat] at ho14; rw [← Ny435.out] at ho14))
    have HO437 := Aside0.mk (Kd.R_lower (Kd.R_new' ho14 (rl_ HO431)) (below_size (hB HB)))
    replace HO431 := re_ HO431 ho14 hb
    replace HO443 := rb_ HO443 hb
    replace BK427 := bb_ BK427 hb
    replace BK428 := bb_ BK428 hb
    replace HB := bst_ HB hb
    clear hb ho14
    refine hK.out _ _ ⟨bc_ BK427 0, bc_ BK427 1, bc_ BK427 2⟩ (fun hHeld => ?_)
    clear hK K
    refine nm_ 7 ?_
    exact norm_ (by first | (simp only [putAll, Act.put, List.setIfInBounds_toArray, List.set_cons_zero, List.set_cons_succ]; done) | (simp only [putAll, Act.put, List.setIfInBounds_toArray, List.set_cons_zero, List.set_cons_succ]; rfl)) (hJ0_4_8 (v430, v436, v442) _ ⟨hHeld, (rm_ HO431 (fun _ hk => hk.2)).out, (rm_ HO437 (fun _ hk => hk.2)).out, (ra HO443.out), (ba BK427.out), (ba BK428.out), (hB HB)⟩)
   skip
   refine Kd.R_append_rows_step (Kd.int .i64) (w0 := w) w.heap.size (by rfl) (.tmp 3) (.tmp 5) 24 3 (.int .i64 0) 8 rfl Try.underlying24 info3 rfl (by decide) (by omega) v430 y429 l0_0 _ _ _ (fun _ => True) (fun _ => False) rfl rfl ?aO ?aR (fun _ _ h => h) (fun _ h => h.elim) ?aF ?aB ?aS ?aL ?_
   (case aR => exact ca (Kd.C_below HR0_0.out HB.out))
   (case aB => exact (hB HB))
   (case aF => exact (fun _ _ => trivial))
   (case aO => exact (ra HO431.out))
   (case aS => exact (below_size (hB HB)))
   (case aL => have := LMc2.out; omega)
   intro v433 w13 ho hb hg hat
   rw [← Ny432.out] at ho
   have HO434 := Aside0.mk (ho)
   replace BK427 := Aside0.mk (blk_grown (g := gb427) (o := .cells #[.slice A0_0 l0_0.length c0_0, .slice A0_1 l0_1.length c0_1, .slice A0_2 l0_2.length c0_2] 47 (0, 0)) (ba BK427.out) hg (Kd.R_ne HO431.out BK427.out (by decide)))
   replace BK428 := Aside0.mk (blk_grown (g := gb428) (o := .cells #[.slice none 0 0, .slice none 0 0, .slice none 0 0] 47 (0, 0)) (ba BK428.out) hg (Kd.R_ne HO431.out BK428.out (by decide)))
   replace HO443 := Aside0.mk (Kd.R_over' (ra HO443.out) (Kd.R_typed (ra HO431.out)) (by decide) hg)
   replace HB := Aside0.mk (hb)
   clear HO431
   clear ho hb hg hat
   refine hK.out _ _ ⟨bc_ BK427 0, bc_ BK427 1, bc_ BK427 2⟩ (fun hHeld => ?_)
   clear hK K
   refine nm_ 6 ?_
   exact norm_ (by first | (simp only [putAll, Act.put, List.setIfInBounds_toArray, List.set_cons_zero, List.set_cons_succ]; done) | (simp only [putAll, Act.put, List.setIfInBounds_toArray, List.set_cons_zero, List.set_cons_succ]; rfl)) (hJ0_3_8 (v430, v433, v442) _ ⟨hHeld, (ra HO434.out), (ra HO443.out), (ba BK427.out), (ba BK428.out), (hB HB)⟩)
  intro hJ0_8
  refine join_ (σ := Value × Value) 6 (bs 14 1910) (fun s_ => [(7, s_.1), (11, s_.2)]) (fun s_ w' => (w'.cell? ⟨gb427, 0, none⟩ = some (.slice A0_0 l0_0.length c0_0) ∧ w'.cell? ⟨gb427, 1, none⟩ = some (.slice A0_1 l0_1.length c0_1) ∧ w'.cell? ⟨gb427, 2, none⟩ = some (.slice A0_2 l0_2.length c0_2)) ∧ (Kd.R (Kd.int .i64) 3 w' w.heap.size (fun _ => True) s_.1 y435) ∧ (Kd.R k127 127 w' w.heap.size (fun _ => True) s_.2 y441) ∧ (w'.heap[gb427]? = some (.cells #[.slice A0_0 l0_0.length c0_0, .slice A0_1 l0_1.length c0_1, .slice A0_2 l0_2.length c0_2] 47 (0, 0))) ∧ (w'.heap[gb428]? = some (.cells #[.slice none 0 0, .slice none 0 0, .slice none 0 0] 47 (0, 0))) ∧ (Below w.heap.size w w')) ?_ ?_
  rotate_left
  rotate_left
  ·skip
   rintro ⟨v436, v442⟩ w12 ⟨hS_, h0_, h1_, h2_, h3_, h4_⟩
   try dsimp only at h0_ h1_ h2_ h3_ h4_
   have HO437 := Aside0.mk h0_
   have HO443 := Aside0.mk h1_
   replace BK427 := Aside0.mk h2_
   replace BK428 := Aside0.mk h3_
   replace HB := Aside0.mk h4_
   clear h0_ h1_ h2_ h3_ h4_
   have hHeld : w12.cell? ⟨gb427, 0, none⟩ = some (.slice A0_0 l0_0.length c0_0) ∧ w12.cell? ⟨gb427, 1, none⟩ = some (.slice A0_1 l0_1.length c0_1) ∧ w12.cell? ⟨gb427, 2, none⟩ = some (.slice A0_2 l0_2.length c0_2) := hS_
   refine norm_ (a' := ?_) ?_ ?_
   rotate_left
   ·simp only [putAll, Act.put, List.setIfInBounds_toArray, List.set_cons_zero, List.set_cons_succ]
    rfl
   refine one_ (i := 0) (N := some 3) (bs 14 1911) rfl rfl (one_of HT_.out (by kernel_rfl)) (by decide) (fun K hK => ?_)
   refine Kd.R_lit_step (Kd.int .i64) _ 3 ?hg (N := 3) ?hd (xs := ([] : List Int)) (inner := []) (ok := fun _ => True) (okp := fun _ => True) ?hr ?hp (fun _ hk => hk) trivial (Below.refl _ _) (Nat.le_refl _) (by simp) ?_; (case hd => rfl); (case hg => rfl); (case hr => first | (go_simp; done) | (go_simp; rfl)); (case hp => exact (Reps.none _ _))
   intro v430 w13 ho14 hb hg_ hnew_
   clear hg_ hnew_
   (first | rw [← Ny429.out] at ho14 | (simp only [Int.reduceToNat] at ho14; rw [← Ny429.out] at ho14))
   have HO431 := Aside0.mk (Kd.R_lower (Kd.R_new' ho14 (rl_ HO437)) (below_size (hB HB)))
   replace HO437 := re_ HO437 ho14 hb
   replace HO443 := rb_ HO443 hb
   replace BK427 := bb_ BK427 hb
   replace BK428 := bb_ BK428 hb
   replace HB := bst_ HB hb
   clear hb ho14
   refine hK.out _ _ ⟨bc_ BK427 0, bc_ BK427 1, bc_ BK427 2⟩ (fun hHeld => ?_)
   clear hK K
   refine nm_ 3 ?_
   exact norm_ (by first | (simp only [putAll, Act.put, List.setIfInBounds_toArray, List.set_cons_zero, List.set_cons_succ]; done) | (simp only [putAll, Act.put, List.setIfInBounds_toArray, List.set_cons_zero, List.set_cons_succ]; rfl)) (hJ0_4_8 (v430, v436, v442) _ ⟨hHeld, (rm_ HO431 (fun _ hk => hk.2)).out, (rm_ HO437 (fun _ hk => hk.2)).out, (ra HO443.out), (ba BK427.out), (ba BK428.out), (hB HB)⟩)
  intro hJ4_8
  refine join_ (σ := Value) 7 (bs 14 1639) (fun s_ => [(3, s_)]) (fun s_ w' => (w'.cell? ⟨gb427, 0, none⟩ = some (.slice A0_0 l0_0.length c0_0) ∧ w'.cell? ⟨gb427, 1, none⟩ = some (.slice A0_1 l0_1.length c0_1) ∧ w'.cell? ⟨gb427, 2, none⟩ = some (.slice A0_2 l0_2.length c0_2)) ∧ (Kd.R (Kd.int .i64) 3 w' w.heap.size (fun _ => True) s_ y429) ∧ (w'.heap[gb427]? = some (.cells #[.slice A0_0 l0_0.length c0_0, .slice A0_1 l0_1.length c0_1, .slice A0_2 l0_2.length c0_2] 47 (0, 0))) ∧ (w'.heap[gb428]? = some (.cells #[.slice none 0 0, .slice none 0 0, .slice none 0 0] 47 (0, 0))) ∧ (Below w.heap.size w w')) ?_ ?_
  rotate_left
  rotate_left
  ·skip
   rintro v430 w10 ⟨hS_, h0_, h1_, h2_, h3_⟩
   try dsimp only at h0_ h1_ h2_ h3_
   have HO431 := Aside0.mk h0_
   replace BK427 := Aside0.mk h1_
   replace BK428 := Aside0.mk h2_
   replace HB := Aside0.mk h3_
   clear h0_ h1_ h2_ h3_
   have hHeld : w10.cell? ⟨gb427, 0, none⟩ = some (.slice A0_0 l0_0.length c0_0) ∧ w10.cell? ⟨gb427, 1, none⟩ = some (.slice A0_1 l0_1.length c0_1) ∧ w10.cell? ⟨gb427, 2, none⟩ = some (.slice A0_2 l0_2.length c0_2) := hS_
   refine norm_ (a' := ?_) ?_ ?_
   rotate_left
   ·simp only [putAll, Act.put, List.setIfInBounds_toArray, List.set_cons_zero, List.set_cons_succ]
    rfl
   refine three_ (i := 3) (j := 4) (k := 8) (Ni := some 6) (Nj := some 7) (Nk := some 11) (bs 14 1647) (bs 14 1655) (bs 14 1895) rfl rfl rfl rfl rfl rfl (three_of HT_.out (by kernel_rfl)) (by decide) (by decide) (by decide) (fun K hK => ?_) (fun K hK => ?_) (fun K hK => ?_)
   rotate_left
   ·skip
    refine Kd.R_lit_step (Kd.int .i64) _ 3 ?hg (N := 7) ?hd (xs := ([] : List Int)) (inner := []) (ok := fun _ => True) (okp := fun _ => True) ?hr ?hp (fun _ hk => hk) trivial (Below.refl _ _) (Nat.le_refl _) (by simp) ?_; (case hd => rfl); (case hg => rfl); (case hr => first | (go_simp; done) | (go_simp; rfl)); (case hp => exact (Reps.none _ _))
    intro v436 w11 ho12 hb hg_ hnew_
    clear hg_ hnew_
    (first | rw [← Ny435.out] at ho12 | (simp only [Int.reduceToNat] at ho12; rw [← Ny435.out] at ho12))
    have HO437 := Aside0.mk (Kd.R_lower (Kd.R_new' ho12 (rl_ HO431)) (below_size (hB HB)))
    replace HO431 := re_ HO431 ho12 hb
    replace BK427 := bb_ BK427 hb
    replace BK428 := bb_ BK428 hb
    replace HB := bst_ HB hb
    clear hb ho12
    refine hK.out _ _ ⟨bc_ BK427 0, bc_ BK427 1, bc_ BK427 2⟩ (fun hHeld => ?_)
    clear hK K
    refine nm_ 7 ?_
    exact norm_ (by first | (simp only [putAll, Act.put, List.setIfInBounds_toArray, List.set_cons_zero, List.set_cons_succ]; done) | (simp only [putAll, Act.put, List.setIfInBounds_toArray, List.set_cons_zero, List.set_cons_succ]; rfl)) (hJ0_4 (v430, v436) _ ⟨hHeld, (rm_ HO431 (fun _ hk => hk.2)).out, (rm_ HO437 (fun _ hk => hk.2)).out, (ba BK427.out), (ba BK428.out), (hB HB)⟩)
   ·skip
    refine Kd.R_lit_step k127 _ 127 ?hg (N := 11) ?hd (xs := ([] : List (S127))) (inner := []) (ok := fun _ => True) (okp := fun _ => True) ?hr ?hp (fun _ hk => hk) trivial (Below.refl _ _) (Nat.le_refl _) (by simp) ?_; (case hd => rfl); (case hg => rfl); (case hr => first | (go_simp; done) | (go_simp; rfl)); (case hp => exact (Reps.none _ _))
    intro v442 w11 ho12 hb hg_ hnew_
    clear hg_ hnew_
    (first | rw [← Ny441.out] at ho12 | (simp only [Int.reduceToNat] at ho12; rw [← Ny441.out] at ho12))
    have HO443 := Aside0.mk (Kd.R_lower ho12 (below_size (hB HB)))
    replace HO431 := rb_ HO431 hb
    replace BK427 := bb_ BK427 hb
    replace BK428 := bb_ BK428 hb
    replace HB := bst_ HB hb
    clear hb ho12
    refine hK.out _ _ ⟨bc_ BK427 0, bc_ BK427 1, bc_ BK427 2⟩ (fun hHeld => ?_)
    clear hK K
    refine nm_ 11 ?_
    exact norm_ (by first | (simp only [putAll, Act.put, List.setIfInBounds_toArray, List.set_cons_zero, List.set_cons_succ]; done) | (simp only [putAll, Act.put, List.setIfInBounds_toArray, List.set_cons_zero, List.set_cons_succ]; rfl)) (hJ0_8 (v430, v442) _ ⟨hHeld, (ra HO431.out), (ra HO443.out), (ba BK427.out), (ba BK428.out), (hB HB)⟩)
   skip
   refine Kd.R_append_rows_step (Kd.int .i64) (w0 := w) w.heap.size (by rfl) (.tmp 3) (.tmp 5) 24 3 (.int .i64 0) 8 rfl Try.underlying24 info3 rfl (by decide) (by omega) v430 y429 l0_0 _ _ _ (fun _ => True) (fun _ => False) rfl rfl ?aO ?aR (fun _ _ h => h) (fun _ h => h.elim) ?aF ?aB ?aS ?aL ?_
   (case aR => exact ca (Kd.C_below HR0_0.out HB.out))
   (case aB => exact (hB HB))
   (case aF => exact (fun _ _ => trivial))
   (case aO => exact (ra HO431.out))
   (case aS => exact (below_size (hB HB)))
   (case aL => have := LMc2.out; omega)
   intro v433 w11 ho hb hg hat
   rw [← Ny432.out] at ho
   have HO434 := Aside0.mk (ho)
   replace BK427 := Aside0.mk (blk_grown (g := gb427) (o := .cells #[.slice A0_0 l0_0.length c0_0, .slice A0_1 l0_1.length c0_1, .slice A0_2 l0_2.length c0_2] 47 (0, 0)) (ba BK427.out) hg (Kd.R_ne HO431.out BK427.out (by decide)))
   replace BK428 := Aside0.mk (blk_grown (g := gb428) (o := .cells #[.slice none 0 0, .slice none 0 0, .slice none 0 0] 47 (0, 0)) (ba BK428.out) hg (Kd.R_ne HO431.out BK428.out (by decide)))
   replace HB := Aside0.mk (hb)
   clear HO431
   clear ho hb hg hat
   refine hK.out _ _ ⟨bc_ BK427 0, bc_ BK427 1, bc_ BK427 2⟩ (fun hHeld => ?_)
   clear hK K
   refine nm_ 6 ?_
   exact norm_ (by first | (simp only [putAll, Act.put, List.setIfInBounds_toArray, List.set_cons_zero, List.set_cons_succ]; done) | (simp only [putAll, Act.put, List.setIfInBounds_toArray, List.set_cons_zero, List.set_cons_succ]; rfl)) (hJ0_3 (v430, v433) _ ⟨hHeld, (ra HO434.out), (ba BK427.out), (ba BK428.out), (hB HB)⟩)
  intro hJ0
  refine join_ (σ := Value) 7 (bs 14 1654) (fun s_ => [(7, s_)]) (fun s_ w' => (w'.cell? ⟨gb427, 0, none⟩ = some (.slice A0_0 l0_0.length c0_0) ∧ w'.cell? ⟨gb427, 1, none⟩ = some (.slice A0_1 l0_1.length c0_1) ∧ w'.cell? ⟨gb427, 2, none⟩ = some (.slice A0_2 l0_2.length c0_2)) ∧ (Kd.R (Kd.int .i64) 3 w' w.heap.size (fun _ => True) s_ y435) ∧ (w'.heap[gb427]? = some (.cells #[.slice A0_0 l0_0.length c0_0, .slice A0_1 l0_1.length c0_1, .slice A0_2 l0_2.length c0_2] 47 (0, 0))) ∧ (w'.heap[gb428]? = some (.cells #[.slice none 0 0, .slice none 0 0, .slice none 0 0] 47 (0, 0))) ∧ (Below w.heap.size w w')) ?_ ?_
  rotate_left
  rotate_left
  ·skip
   rintro v436 w10 ⟨hS_, h0_, h1_, h2_, h3_⟩
   try dsimp only at h0_ h1_ h2_ h3_
   have HO437 := Aside0.mk h0_
   replace BK427 := Aside0.mk h1_
   replace BK428 := Aside0.mk h2_
   replace HB := Aside0.mk h3_
   clear h0_ h1_ h2_ h3_
   have hHeld : w10.cell? ⟨gb427, 0, none⟩ = some (.slice A0_0 l0_0.length c0_0) ∧ w10.cell? ⟨gb427, 1, none⟩ = some (.slice A0_1 l0_1.length c0_1) ∧ w10.cell? ⟨gb427, 2, none⟩ = some (.slice A0_2 l0_2.length c0_2) := hS_
   refine norm_ (a' := ?_) ?_ ?_
   rotate_left
   ·simp only [putAll, Act.put, List.setIfInBounds_toArray, List.set_cons_zero, List.set_cons_succ]
    rfl
   refine two_ (i := 0) (j := 8) (Ni := some 3) (Nj := some 11) (bs 14 1655) (bs 14 1910) rfl rfl rfl rfl (two_of HT_.out (by kernel_rfl)) (by decide) (by decide) (fun K hK => ?_) (fun K hK => ?_)
   rotate_left
   ·skip
    refine Kd.R_lit_step k127 _ 127 ?hg (N := 11) ?hd (xs := ([] : List (S127))) (inner := []) (ok := fun _ => True) (okp := fun _ => True) ?hr ?hp (fun _ hk => hk) trivial (Below.refl _ _) (Nat.le_refl _) (by simp) ?_; (case hd => rfl); (case hg => rfl); (case hr => first | (go_simp; done) | (go_simp; rfl)); (case hp => exact (Reps.none _ _))
    intro v442 w11 ho12 hb hg_ hnew_
    clear hg_ hnew_
    (first | rw [← Ny441.out] at ho12 | (simp only [Int.reduceToNat] at ho12; rw [← Ny441.out] at ho12))
    have HO443 := Aside0.mk (Kd.R_lower ho12 (below_size (hB HB)))
    replace HO437 := rb_ HO437 hb
    replace BK427 := bb_ BK427 hb
    replace BK428 := bb_ BK428 hb
    replace HB := bst_ HB hb
    clear hb ho12
    refine hK.out _ _ ⟨bc_ BK427 0, bc_ BK427 1, bc_ BK427 2⟩ (fun hHeld => ?_)
    clear hK K
    refine nm_ 11 ?_
    exact norm_ (by first | (simp only [putAll, Act.put, List.setIfInBounds_toArray, List.set_cons_zero, List.set_cons_succ]; done) | (simp only [putAll, Act.put, List.setIfInBounds_toArray, List.set_cons_zero, List.set_cons_succ]; rfl)) (hJ4_8 (v436, v442) _ ⟨hHeld, (ra HO437.out), (ra HO443.out), (ba BK427.out), (ba BK428.out), (hB HB)⟩)
   skip
   refine Kd.R_lit_step (Kd.int .i64) _ 3 ?hg (N := 3) ?hd (xs := ([] : List Int)) (inner := []) (ok := fun _ => True) (okp := fun _ => True) ?hr ?hp (fun _ hk => hk) trivial (Below.refl _ _) (Nat.le_refl _) (by simp) ?_; (case hd => rfl); (case hg => rfl); (case hr => first | (go_simp; done) | (go_simp; rfl)); (case hp => exact (Reps.none _ _))
   intro v430 w11 ho12 hb hg_ hnew_
   clear hg_ hnew_
   (first | rw [← Ny429.out] at ho12 | (simp only [Int.reduceToNat] at ho12; rw [← Ny429.out] at ho12))
   have HO431 := Aside0.mk (Kd.R_lower (Kd.R_new' ho12 (rl_ HO437)) (below_size (hB HB)))
   replace HO437 := re_ HO437 ho12 hb
   replace BK427 := bb_ BK427 hb
   replace BK428 := bb_ BK428 hb
   replace HB := bst_ HB hb
   clear hb ho12
   refine hK.out _ _ ⟨bc_ BK427 0, bc_ BK427 1, bc_ BK427 2⟩ (fun hHeld => ?_)
   clear hK K
   refine nm_ 3 ?_
   exact norm_ (by first | (simp only [putAll, Act.put, List.setIfInBounds_toArray, List.set_cons_zero, List.set_cons_succ]; done) | (simp only [putAll, Act.put, List.setIfInBounds_toArray, List.set_cons_zero, List.set_cons_succ]; rfl)) (hJ0_4 (v430, v436) _ ⟨hHeld, (rm_ HO431 (fun _ hk => hk.2)).out, (rm_ HO437 (fun _ hk => hk.2)).out, (ba BK427.out), (ba BK428.out), (hB HB)⟩)
  intro hJ4
  refine join_ (σ := Value) 7 (bs 14 1894) (fun s_ => [(11, s_)]) (fun s_ w' => (w'.cell? ⟨gb427, 0, none⟩ = some (.slice A0_0 l0_0.length c0_0) ∧ w'.cell? ⟨gb427, 1, none⟩ = some (.slice A0_1 l0_1.length c0_1) ∧ w'.cell? ⟨gb427, 2, none⟩ = some (.slice A0_2 l0_2.length c0_2)) ∧ (Kd.R k127 127 w' w.heap.size (fun _ => True) s_ y441) ∧ (w'.heap[gb427]? = some (.cells #[.slice A0_0 l0_0.length c0_0, .slice A0_1 l0_1.length c0_1, .slice A0_2 l0_2.length c0_2] 47 (0, 0))) ∧ (w'.heap[gb428]? = some (.cells #[.slice none 0 0, .slice none 0 0, .slice none 0 0] 47 (0, 0))) ∧ (Below w.heap.size w w')) ?_ ?_
  rotate_left
  rotate_left
  ·skip
   rintro v442 w10 ⟨hS_, h0_, h1_, h2_, h3_⟩
   try dsimp only at h0_ h1_ h2_ h3_
   have HO443 := Aside0.mk h0_
   replace BK427 := Aside0.mk h1_
   replace BK428 := Aside0.mk h2_
   replace HB := Aside0.mk h3_
   clear h0_ h1_ h2_ h3_
   have hHeld : w10.cell? ⟨gb427, 0, none⟩ = some (.slice A0_0 l0_0.length c0_0) ∧ w10.cell? ⟨gb427, 1, none⟩ = some (.slice A0_1 l0_1.length c0_1) ∧ w10.cell? ⟨gb427, 2, none⟩ = some (.slice A0_2 l0_2.length c0_2) := hS_
   refine norm_ (a' := ?_) ?_ ?_
   rotate_left
   ·simp only [putAll, Act.put, List.setIfInBounds_toArray, List.set_cons_zero, List.set_cons_succ]
    rfl
   refine two_ (i := 0) (j := 4) (Ni := some 3) (Nj := some 7) (bs 14 1895) (bs 14 1910) rfl rfl rfl rfl (two_of HT_.out (by kernel_rfl)) (by decide) (by decide) (fun K hK => ?_) (fun K hK => ?_)
   rotate_left
   ·skip
    refine Kd.R_lit_step (Kd.int .i64) _ 3 ?hg (N := 7) ?hd (xs := ([] : List Int)) (inner := []) (ok := fun _ => True) (okp := fun _ => True) ?hr ?hp (fun _ hk => hk) trivial (Below.refl _ _) (Nat.le_refl _) (by simp) ?_; (case hd => rfl); (case hg => rfl); (case hr => first | (go_simp; done) | (go_simp; rfl)); (case hp => exact (Reps.none _ _))
    intro v436 w11 ho12 hb hg_ hnew_
    clear hg_ hnew_
    (first | rw [← Ny435.out] at ho12 | (simp only [Int.reduceToNat] at ho12; rw [← Ny435.out] at ho12))
    have HO437 := Aside0.mk (Kd.R_lower ho12 (below_size (hB HB)))
    replace HO443 := rb_ HO443 hb
    replace BK427 := bb_ BK427 hb
    replace BK428 := bb_ BK428 hb
    replace HB := bst_ HB hb
    clear hb ho12
    refine hK.out _ _ ⟨bc_ BK427 0, bc_ BK427 1, bc_ BK427 2⟩ (fun hHeld => ?_)
    clear hK K
    refine nm_ 7 ?_
    exact norm_ (by first | (simp only [putAll, Act.put, List.setIfInBounds_toArray, List.set_cons_zero, List.set_cons_succ]; done) | (simp only [putAll, Act.put, List.setIfInBounds_toArray, List.set_cons_zero, List.set_cons_succ]; rfl)) (hJ4_8 (v436, v442) _ ⟨hHeld, (ra HO437.out), (ra HO443.out), (ba BK427.out), (ba BK428.out), (hB HB)⟩)
   skip
   refine Kd.R_lit_step (Kd.int .i64) _ 3 ?hg (N := 3) ?hd (xs := ([] : List Int)) (inner := []) (ok := fun _ => True) (okp := fun _ => True) ?hr ?hp (fun _ hk => hk) trivial (Below.refl _ _) (Nat.le_refl _) (by simp) ?_; (case hd => rfl); (case hg => rfl); (case hr => first | (go_simp; done) | (go_simp; rfl)); (case hp => exact (Reps.none _ _))
   intro v430 w11 ho12 hb hg_ hnew_
   clear hg_ hnew_
   (first | rw [← Ny429.out] at ho12 | (simp only [Int.reduceToNat] at ho12; rw [← Ny429.out] at ho12))
   have HO431 := Aside0.mk (Kd.R_lower ho12 (below_size (hB HB)))
   replace HO443 := rb_ HO443 hb
   replace BK427 := bb_ BK427 hb
   replace BK428 := bb_ BK428 hb
   replace HB := bst_ HB hb
   clear hb ho12
   refine hK.out _ _ ⟨bc_ BK427 0, bc_ BK427 1, bc_ BK427 2⟩ (fun hHeld => ?_)
   clear hK K
   refine nm_ 3 ?_
   exact norm_ (by first | (simp only [putAll, Act.put, List.setIfInBounds_toArray, List.set_cons_zero, List.set_cons_succ]; done) | (simp only [putAll, Act.put, List.setIfInBounds_toArray, List.set_cons_zero, List.set_cons_succ]; rfl)) (hJ0_8 (v430, v442) _ ⟨hHeld, (ra HO431.out), (ra HO443.out), (ba BK427.out), (ba BK428.out), (hB HB)⟩)
  intro hJ8
  refine three_ (i := 0) (j := 4) (k := 8) (Ni := some 3) (Nj := some 7) (Nk := some 11) (bs 14 1639) (bs 14 1654) (bs 14 1894) rfl rfl rfl rfl rfl rfl (three_of HT_.out (by kernel_rfl)) (by decide) (by decide) (by decide) (fun K hK => ?_) (fun K hK => ?_) (fun K hK => ?_)
  rotate_left
  ·skip
   refine Kd.R_lit_step (Kd.int .i64) _ 3 ?hg (N := 7) ?hd (xs := ([] : List Int)) (inner := []) (ok := fun _ => True) (okp := fun _ => True) ?hr ?hp (fun _ hk => hk) trivial (Below.refl _ _) (Nat.le_refl _) (by simp) ?_; (case hd => rfl); (case hg => rfl); (case hr => first | (go_simp; done) | (go_simp; rfl)); (case hp => exact (Reps.none _ _))
   intro v436 w8 ho9 hb hg_ hnew_
   clear hg_ hnew_
   (first | rw [← Ny435.out] at ho9 | (simp only [Int.reduceToNat] at ho9; rw [← Ny435.out] at ho9))
   have HO437 := Aside0.mk (Kd.R_lower ho9 (below_size (hB HB)))
   replace BK427 := bb_ BK427 hb
   replace BK428 := bb_ BK428 hb
   replace HB := bst_ HB hb
   clear hb ho9
   refine hK.out _ _ ⟨bc_ BK427 0, bc_ BK427 1, bc_ BK427 2⟩ (fun hHeld => ?_)
   clear hK K
   refine nm_ 7 ?_
   exact norm_ (by first | (simp only [putAll, Act.put, List.setIfInBounds_toArray, List.set_cons_zero, List.set_cons_succ]; done) | (simp only [putAll, Act.put, List.setIfInBounds_toArray, List.set_cons_zero, List.set_cons_succ]; rfl)) (hJ4 (v436) _ ⟨hHeld, (ra HO437.out), (ba BK427.out), (ba BK428.out), (hB HB)⟩)
  ·skip
   refine Kd.R_lit_step k127 _ 127 ?hg (N := 11) ?hd (xs := ([] : List (S127))) (inner := []) (ok := fun _ => True) (okp := fun _ => True) ?hr ?hp (fun _ hk => hk) trivial (Below.refl _ _) (Nat.le_refl _) (by simp) ?_; (case hd => rfl); (case hg => rfl); (case hr => first | (go_simp; done) | (go_simp; rfl)); (case hp => exact (Reps.none _ _))
   intro v442 w8 ho9 hb hg_ hnew_
   clear hg_ hnew_
   (first | rw [← Ny441.out] at ho9 | (simp only [Int.reduceToNat] at ho9; rw [← Ny441.out] at ho9))
   have HO443 := Aside0.mk (Kd.R_lower ho9 (below_size (hB HB)))
   replace BK427 := bb_ BK427 hb
   replace BK428 := bb_ BK428 hb
   replace HB := bst_ HB hb
   clear hb ho9
   refine hK.out _ _ ⟨bc_ BK427 0, bc_ BK427 1, bc_ BK427 2⟩ (fun hHeld => ?_)
   clear hK K
   refine nm_ 11 ?_
   exact norm_ (by first | (simp only [putAll, Act.put, List.setIfInBounds_toArray, List.set_cons_zero, List.set_cons_succ]; done) | (simp only [putAll, Act.put, List.setIfInBounds_toArray, List.set_cons_zero, List.set_cons_succ]; rfl)) (hJ8 (v442) _ ⟨hHeld, (ra HO443.out), (ba BK427.out), (ba BK428.out), (hB HB)⟩)
  skip
  refine Kd.R_lit_step (Kd.int .i64) _ 3 ?hg (N := 3) ?hd (xs := ([] : List Int)) (inner := []) (ok := fun _ => True) (okp := fun _ => True) ?hr ?hp (fun _ hk => hk) trivial (Below.refl _ _) (Nat.le_refl _) (by simp) ?_; (case hd => rfl); (case hg => rfl); (case hr => first | (go_simp; done) | (go_simp; rfl)); (case hp => exact (Reps.none _ _))
  intro v430 w8 ho9 hb hg_ hnew_
  clear hg_ hnew_
  (first | rw [← Ny429.out] at ho9 | (simp only [Int.reduceToNat] at ho9; rw [← Ny429.out] at ho9))
  have HO431 := Aside0.mk (Kd.R_lower ho9 (below_size (hB HB)))
  replace BK427 := bb_ BK427 hb
  replace BK428 := bb_ BK428 hb
  replace HB := bst_ HB hb
  clear hb ho9
  refine hK.out _ _ ⟨bc_ BK427 0, bc_ BK427 1, bc_ BK427 2⟩ (fun hHeld => ?_)
  clear hK K
  refine nm_ 3 ?_
  exact norm_ (by first | (simp only [putAll, Act.put, List.setIfInBounds_toArray, List.set_cons_zero, List.set_cons_succ]; done) | (simp only [putAll, Act.put, List.setIfInBounds_toArray, List.set_cons_zero, List.set_cons_succ]; rfl)) (hJ0 (v430) _ ⟨hHeld, (ra HO431.out), (ba BK427.out), (ba BK428.out), (hB HB)⟩)
 rintro ⟨v430, v433, v436, v439, v442⟩ w16 ⟨hS_, h0_, h1_, h2_, h3_, h4_, h5_⟩
 try dsimp only at h0_ h1_ h2_ h3_ h4_ h5_
 have HO434 := Aside0.mk h0_
 have HO440 := Aside0.mk h1_
 have HO443 := Aside0.mk h2_
 replace BK427 := Aside0.mk h3_
 replace BK428 := Aside0.mk h4_
 replace HB := Aside0.mk h5_
 clear h0_ h1_ h2_ h3_ h4_ h5_
 have hHeld : w16.cell? ⟨gb427, 0, none⟩ = some (.slice A0_0 l0_0.length c0_0) ∧ w16.cell? ⟨gb427, 1, none⟩ = some (.slice A0_1 l0_1.length c0_1) ∧ w16.cell? ⟨gb427, 2, none⟩ = some (.slice A0_2 l0_2.length c0_2) := hS_
 refine norm_ (a' := ?_) ?_ ?_
 rotate_left
 ·simp only [putAll, Act.put, List.setIfInBounds_toArray, List.set_cons_zero, List.set_cons_succ]
  rfl
 refine one_ (i := 11) (N := some 14) (bs 14 4095) rfl rfl (one_of HT_.out (by kernel_rfl)) (by decide) (fun K hK => ?_)
 refine Kd.R_append_rows_step k127 (w0 := w) w.heap.size (by rfl) (.tmp 11) (.tmp 13) 45 127 (.agg #[(.int .i64 0), (.bool false)]) 16 rfl Try.underlying45 info127 rfl (by decide) (by omega) v442 y441 l0_2 _ _ _ (fun _ => True) (fun _ => False) rfl rfl ?aO ?aR (fun _ _ h => h) (fun _ h => h.elim) ?aF ?aB ?aS ?aL ?_
 (case aR => exact ca (Kd.C_below HR0_2.out HB.out))
 (case aB => exact (hB HB))
 (case aF => exact (fun _ _ => trivial))
 (case aO => exact (ra HO443.out))
 (case aS => exact (below_size (hB HB)))
 (case aL => have := LMc4.out; omega)
 intro v445 w17 ho hb hg hat
 rw [← Ny444.out] at ho
 have HO446 := Aside0.mk (ho)
 replace BK427 := Aside0.mk (blk_grown (g := gb427) (o := .cells #[.slice A0_0 l0_0.length c0_0, .slice A0_1 l0_1.length c0_1, .slice A0_2 l0_2.length c0_2] 47 (0, 0)) (ba BK427.out) hg (Kd.R_ne HO443.out BK427.out (by decide)))
 replace BK428 := Aside0.mk (blk_grown (g := gb428) (o := .cells #[.slice none 0 0, .slice none 0 0, .slice none 0 0] 47 (0, 0)) (ba BK428.out) hg (Kd.R_ne HO443.out BK428.out (by decide)))
 replace HO434 := Aside0.mk (Kd.R_over' (ra HO434.out) (Kd.R_typed (ra HO443.out)) (by decide) hg)
 replace HO440 := Aside0.mk (Kd.R_over' (ra HO440.out) (Kd.R_typed (ra HO443.out)) (by decide) hg)
 replace HB := Aside0.mk (hb)
 clear HO443
 clear ho hb hg hat
 obtain ⟨Ao18, co18, eo18⟩ := Kd.R_slice HO446.out
 subst eo18
 obtain ⟨Ao19, co19, eo19⟩ := Kd.R_slice HO440.out
 subst eo19
 obtain ⟨Ao20, co20, eo20⟩ := Kd.R_slice HO434.out
 subst eo20
 refine hK.out _ _ ⟨bc_ BK427 0, bc_ BK427 1, bc_ BK427 2⟩ (fun hHeld => ?_)
 clear hK K
 refine nm_ 14 ?_
 refine pu_ 12 15 (bs 14 8191) HT_ ?_
 refine one_ (i := 13) (N := none) (bs 14 16383) rfl rfl (one_of HT_.out (by kernel_rfl)) (by decide) (fun K hK => ?_)
 have hs21 : w17.cell? ⟨gb428, 0, none⟩ = some (.slice none 0 0) := bc_ BK428 0
 have hfs21 := blk_frozen BK428.out 0
 have hns21_0 := NB427_428.out
 have hms21_0 := NB428_427.out
 have hs22 : w17.cell? ⟨gb428, 1, none⟩ = some (.slice none 0 0) := bc_ BK428 1
 have hfs22 := blk_frozen BK428.out 1
 have hns22_0 := NB427_428.out
 have hms22_0 := NB428_427.out
 have hs23 : w17.cell? ⟨gb428, 2, none⟩ = some (.slice none 0 0) := bc_ BK428 2
 have hfs23 := blk_frozen BK428.out 2
 have hns23_0 := NB427_428.out
 have hms23_0 := NB428_427.out
 refine skip_ (w1 := ?_) (by rfl) rfl ?_ ?_
 rotate_left
 ·go_simp
  rfl
 refine hK.out _ _ ⟨((cell_far (p := ⟨gb428, _, none⟩) NB427_428.out _).trans (((cell_far (p := ⟨gb428, _, none⟩) NB427_428.out _).trans (((cell_far (p := ⟨gb428, _, none⟩) NB427_428.out _).trans (hHeld.1)))))), ((cell_far (p := ⟨gb428, _, none⟩) NB427_428.out _).trans (((cell_far (p := ⟨gb428, _, none⟩) NB427_428.out _).trans (((cell_far (p := ⟨gb428, _, none⟩) NB427_428.out _).trans (hHeld.2.1)))))), ((cell_far (p := ⟨gb428, _, none⟩) NB427_428.out _).trans (((cell_far (p := ⟨gb428, _, none⟩) NB427_428.out _).trans (((cell_far (p := ⟨gb428, _, none⟩) NB427_428.out _).trans (hHeld.2.2))))))⟩ (fun hHeld => ?_)
 clear hK K
 refine done_ (done_of HT_.out (by kernel_rfl)) ?_
 try go_wp2
 refine bodyPost_ret (results_cell_row rfl _ _ gb428 47 #[.slice Ao20 y432.length co20, .slice Ao19 y438.length co19, .slice Ao18 y444.length co18] (0, 0) _ rfl (by (with_reducible repeat (first | refine blk_drewN ?_ _ | refine blk_drew ?_ | refine blk_alloc ?_ _)); refine blk_put (cs := #[.slice Ao20 y432.length co20, .slice Ao19 y438.length co19, .slice none 0 0]) ?_ 2 _ rfl; (with_reducible repeat (first | refine blk_drewN ?_ _ | refine blk_drew ?_ | refine blk_alloc ?_ _)); refine blk_put (cs := #[.slice Ao20 y432.length co20, .slice none 0 0, .slice none 0 0]) ?_ 1 _ rfl; (with_reducible repeat (first | refine blk_drewN ?_ _ | refine blk_drew ?_ | refine blk_alloc ?_ _)); refine blk_put (cs := #[.slice none 0 0, .slice none 0 0, .slice none 0 0]) ?_ 0 _ rfl; (with_reducible repeat (first | refine blk_drewN ?_ _ | refine blk_drew ?_ | refine blk_alloc ?_ _)); exact BK428.out) Try.underlying47 rfl (by kernel_rfl)) rfl ?_
 exact ⟨_, _, _, by first | rfl | (simp [errW_none, errW_some] <;> rfl) | (simp [*, errW_none, errW_some] <;> rfl), by (with_reducible repeat (first | apply Kd.R_alloc | apply Kd.R_drewN | apply Kd.R_drew)); exact Kd.R_mono (fs3_ HO434.out BK428.out) (fun _ hk => hk.1), by (with_reducible repeat (first | apply Kd.R_alloc | apply Kd.R_drewN | apply Kd.R_drew)); exact Kd.R_mono (fs3_ HO440.out BK428.out) (fun _ hk => hk.1), by (with_reducible repeat (first | apply Kd.R_alloc | apply Kd.R_drewN | apply Kd.R_drew)); exact Kd.R_mono (fs3_ HO446.out BK428.out) (fun _ hk => trivial), by repeat (first | (with_reducible first | exact HB.out | apply below_alloc | apply pw_below_drewN | apply below_drew1 | refine below_set ?_ GE427.out | refine below_set ?_ GE428.out) | exact HB.out)⟩

mutual
def impl_GoodPair.j0 : Nat → Bool → List Int → List Int → List (S127) → Option (Bool)
 | 0, _, _, _, _ => none
 | k + 1, x34, x511000, x511001, x511002 => if x34 = true then (some false) else (impl_GoodPair.l0 k x511001 (x511001.length : Int) 0 x511000 x511001 x511002)
def impl_GoodPair.l0 : Nat → List Int → Int → Int → List Int → List Int → List (S127) → Option (Bool)
 | 0, _, _, _, _, _, _ => none
 | k + 1, x36, x37, x38, x511000, x511001, x511002 => if x38 < x37 then (if 0 ≤ x38 then (if x38 < (x36.length : Int) then (if x38 < (x511000.length : Int) then (if (((rd x36 x38) == 0) != ((rd x511000 x38) == 0)) = true then (some false) else (impl_GoodPair.l0 k x36 x37 (wrap64 (x38 + 1)) x511000 x511001 x511002)) else (none)) else (none)) else (none)) else (impl_GoodPair.l1 k x511002 (x511002.length : Int) 0)
def impl_GoodPair.l1 : Nat → List (S127) → Int → Int → Option (Bool)
 | 0, _, _, _ => none
 | k + 1, x54, x55, x56 => if x56 < x55 then (if 0 ≤ x56 then (if x56 < (x54.length : Int) then ((impl_in.f ((rd_T127 x54 x56).f0) 0 1).bind fun t517 => (if t517 = true then (impl_GoodPair.l1 k x54 x55 (wrap64 (x56 + 1))) else (some false))) else (none)) else (none)) else (some true)
end
def impl_GoodPair.f (k : Nat) (l0_0 : List Int) (l0_1 : List Int) (l0_2 : List (S127)) : Option (Bool) := if (l0_0.length : Int) = 2 then (if (l0_1.length : Int) = 2 then (if (l0_2.length : Int) > 12 then (impl_GoodPair.j0 k true l0_0 l0_1 l0_2) else ((impl_allIn.f k l0_0 0 2).bind fun t511 => (if t511 = true then ((impl_allIn.f k l0_1 0 3).bind fun t512 => (impl_GoodPair.j0 k (!t512) l0_0 l0_1 l0_2)) else (impl_GoodPair.j0 k true l0_0 l0_1 l0_2)))) else (impl_GoodPair.j0 k true l0_0 l0_1 l0_2)) else (impl_GoodPair.j0 k true l0_0 l0_1 l0_2)
theorem impl_GoodPair.mono_l : ∀ k, (∀ y0 y1 y2 y3, LeO (impl_GoodPair.j0 k y0 y1 y2 y3) (impl_GoodPair.j0 (k + 1) y0 y1 y2 y3)) ∧ (∀ y0 y1 y2 y3 y4 y5, LeO (impl_GoodPair.l0 k y0 y1 y2 y3 y4 y5) (impl_GoodPair.l0 (k + 1) y0 y1 y2 y3 y4 y5)) ∧ (∀ y0 y1 y2, LeO (impl_GoodPair.l1 k y0 y1 y2) (impl_GoodPair.l1 (k + 1) y0 y1 y2))
 | 0 => ⟨fun _ _ _ _ r h => by simp [impl_GoodPair.j0] at h, fun _ _ _ _ _ _ r h => by simp [impl_GoodPair.l0] at h, fun _ _ _ r h => by simp [impl_GoodPair.l1] at h⟩
 | k + 1 => by
  obtain ⟨ih0, ih1, ih2⟩ := impl_GoodPair.mono_l k
  refine ⟨?_, ?_, ?_⟩
  ·intro y0 y1 y2 y3
   unfold impl_GoodPair.j0
   repeat' first
   | (with_reducible exact ih0 _ _ _ _)
   | (with_reducible exact ih1 _ _ _ _ _ _)
   | (with_reducible exact ih2 _ _ _)
   | (with_reducible exact impl_allIn.mono _ _ _ _)
   | (with_reducible exact LeO.refl _)
   | (with_reducible exact LeO.none _)
   | (with_reducible refine LeO.ite ?_ ?_)
   | (with_reducible refine LeO.bind ?_ (fun _ => ?_))
  ·intro y0 y1 y2 y3 y4 y5
   unfold impl_GoodPair.l0
   repeat' first
   | (with_reducible exact ih0 _ _ _ _)
   | (with_reducible exact ih1 _ _ _ _ _ _)
   | (with_reducible exact ih2 _ _ _)
   | (with_reducible exact impl_allIn.mono _ _ _ _)
   | (with_reducible exact LeO.refl _)
   | (with_reducible exact LeO.none _)
   | (with_reducible refine LeO.ite ?_ ?_)
   | (with_reducible refine LeO.bind ?_ (fun _ => ?_))
  ·intro y0 y1 y2
   unfold impl_GoodPair.l1
   repeat' first
   | (with_reducible exact ih0 _ _ _ _)
   | (with_reducible exact ih1 _ _ _ _ _ _)
   | (with_reducible exact ih2 _ _ _)
   | (with_reducible exact impl_allIn.mono _ _ _ _)
   | (with_reducible exact LeO.refl _)
   | (with_reducible exact LeO.none _)
   | (with_reducible refine LeO.ite ?_ ?_)
   | (with_reducible refine LeO.bind ?_ (fun _ => ?_))
theorem impl_GoodPair.mono : ∀ a0 a1 a2 k, LeO (impl_GoodPair.f k a0 a1 a2) (impl_GoodPair.f (k + 1) a0 a1 a2) := by
 intro a0 a1 a2 k
 obtain ⟨ih0, ih1, ih2⟩ := impl_GoodPair.mono_l k
 unfold impl_GoodPair.f
 repeat' first
   | (with_reducible exact ih0 _ _ _ _)
   | (with_reducible exact ih1 _ _ _ _ _ _)
   | (with_reducible exact ih2 _ _ _)
   | (with_reducible exact impl_allIn.mono _ _ _ _)
   | (with_reducible exact LeO.refl _)
   | (with_reducible exact LeO.none _)
   | (with_reducible refine LeO.ite ?_ ?_)
   | (with_reducible refine LeO.bind ?_ (fun _ => ?_))
set_option maxHeartbeats 8000000 in
set_option maxRecDepth 100000 in
theorem impl_GoodPair.calls (k : Nat) (A0_0 : Option Addr) (c0_0 : Nat) (l0_0 : List Int) (A0_1 : Option Addr) (c0_1 : Nat) (l0_1 : List Int) (A0_2 : Option Addr) (c0_2 : Nat) (l0_2 : List (S127)) (r : Bool) (w : World) (hr0_0 : Kd.C (Kd.int .i64) w A0_0 l0_0.length l0_0) (hc0_0 : l0_0.length ≤ c0_0) (hr0_1 : Kd.C (Kd.int .i64) w A0_1 l0_1.length l0_1) (hc0_1 : l0_1.length ≤ c0_1) (hr0_2 : Kd.C k127 w A0_2 l0_2.length l0_2) (hc0_2 : l0_2.length ≤ c0_2) (h : impl_GoodPair.f k l0_0 l0_1 l0_2 = some r) :
  Calls Try.prog 90 #[.agg #[.slice A0_0 l0_0.length c0_0, .slice A0_1 l0_1.length c0_1, .slice A0_2 l0_2.length c0_2]] w fun e w' => e = .returned (.bool r) ∧ Below w.heap.size w w' := by
 have hu47 := Try.underlying47
 have hu127 := Try.underlying127
 have HR0_0 := Aside0.mk hr0_0
 have HC0_0 := Aside0.mk hc0_0
 clear hr0_0 hc0_0
 have HR0_1 := Aside0.mk hr0_1
 have HC0_1 := Aside0.mk hc0_1
 clear hr0_1 hc0_1
 have HR0_2 := Aside0.mk hr0_2
 have HC0_2 := Aside0.mk hc0_2
 clear hr0_2 hc0_2
 have HB := Aside0.mk (Below.refl w.heap.size w)
 have H : (if (l0_0.length : Int) = 2 then (if (l0_1.length : Int) = 2 then (if (l0_2.length : Int) > 12 then (impl_GoodPair.j0 k true l0_0 l0_1 l0_2) else ((impl_allIn.f k l0_0 0 2).bind fun t511 => (if t511 = true then ((impl_allIn.f k l0_1 0 3).bind fun t512 => (impl_GoodPair.j0 k (!t512) l0_0 l0_1 l0_2)) else (impl_GoodPair.j0 k true l0_0 l0_1 l0_2)))) else (impl_GoodPair.j0 k true l0_0 l0_1 l0_2)) else (impl_GoodPair.j0 k true l0_0 l0_1 l0_2)) = some r := h
 clear h
 have HC2 := Aside0.mk H
 clear H
 go_enter Try.func90, Try.ntmps90
 go_upto_region 1 with (first | ((with_reducible refine gate_dst (N := 1) rfl ?_); (try (refine gate_guard (by rfl) ?_; dsimp only)); refine box_event ?hg (N := 1) ?hd (cs := #[.slice A0_0 l0_0.length c0_0, .slice A0_1 l0_1.length c0_1, .slice A0_2 l0_2.length c0_2]) (t := 47) ?hr ?_; (case hd => rfl); (case hg => rfl); (case hr => first | (go_simp; done) | (go_simp; rfl)); intro gb510 hg w3 hbox hb; have BK510 := Aside0.mk (hbox); have GW510 := gw_ hg HB; have GE510 := gw_ hg HB; replace HB := bst_ HB hb; clear hb hbox hg))
 (try simp only [Act.put, List.setIfInBounds_toArray, List.set_cons_zero, List.set_cons_succ])
 go_cut [34] (fun v34 wc => ∃ (kq : Nat) (x34_1 : Bool), v34 = .bool x34_1 ∧ Aside0 (impl_GoodPair.j0 kq x34_1 l0_0 l0_1 l0_2 = some r) ∧ Aside0 (kq ≤ k) ∧ Aside0 (wc.heap[gb510]? = some (.cells #[(.slice A0_0 l0_0.length c0_0), (.slice A0_1 l0_1.length c0_1), (.slice A0_2 l0_2.length c0_2)] 47 (0, 0))) ∧ Aside0 (Below w.heap.size w wc))
 case first =>
  have H := HC2.out
  clear HC2
  by_cases c4 : (l0_0.length : Int) = 2
  rotate_left
  ·rw [if_neg c4] at H
   have c4b0 : ((l0_0.length : Int) == 2) = false := beq_eq_false_iff_ne.mpr c4
   have c4b1 : ((l0_0.length : Int) != 2) = true := bne_iff_ne.mpr c4
   (first | rw [c4b0] | (simp only [i64_w, i32_w]; rw [c4b0]) | skip)
   have H' := Aside0.mk H
   clear H
   have hcz14_0 : w3.cell? ⟨gb510, 0, none⟩ = some (.slice A0_0 l0_0.length c0_0) := bc_ BK510 0
   have hcz14_1 : w3.cell? ⟨gb510, 1, none⟩ = some (.slice A0_1 l0_1.length c0_1) := bc_ BK510 1
   have hcz14_2 : w3.cell? ⟨gb510, 2, none⟩ = some (.slice A0_2 l0_2.length c0_2) := bc_ BK510 2
   have hfz14_0 := blk_frozen BK510.out 0
   have hfz14_1 := blk_frozen BK510.out 1
   have hfz14_2 := blk_frozen BK510.out 2
   go_wp2
   go_meet
   case rel => exact ⟨_, (true), (by first | rfl | (simp; done) | (simp [*]; done)), H', ⟨by first | omega | exact Nat.le_refl _⟩, ⟨by (with_reducible repeat (first | refine blk_drewN ?_ _ | refine blk_drew ?_ | refine blk_alloc ?_ _)); exact BK510.out⟩, ⟨hB HB⟩⟩
  rw [if_pos c4] at H
  have c4b0 : ((l0_0.length : Int) == 2) = true := beq_iff_eq.mpr c4
  have c4b1 : ((l0_0.length : Int) != 2) = false := bne_eq_false_iff_eq.mpr c4
  clear c4
  (first | rw [c4b0] | (simp only [i64_w, i32_w]; rw [c4b0]) | skip)
  by_cases c5 : (l0_1.length : Int) = 2
  rotate_left
  ·rw [if_neg c5] at H
   have c5b0 : ((l0_1.length : Int) == 2) = false := beq_eq_false_iff_ne.mpr c5
   have c5b1 : ((l0_1.length : Int) != 2) = true := bne_iff_ne.mpr c5
   have H' := Aside0.mk H
   clear H
   have hcz13_0 : w3.cell? ⟨gb510, 0, none⟩ = some (.slice A0_0 l0_0.length c0_0) := bc_ BK510 0
   have hcz13_1 : w3.cell? ⟨gb510, 1, none⟩ = some (.slice A0_1 l0_1.length c0_1) := bc_ BK510 1
   have hcz13_2 : w3.cell? ⟨gb510, 2, none⟩ = some (.slice A0_2 l0_2.length c0_2) := bc_ BK510 2
   have hfz13_0 := blk_frozen BK510.out 0
   have hfz13_1 := blk_frozen BK510.out 1
   have hfz13_2 := blk_frozen BK510.out 2
   go_wp2
   go_meet
   case rel => exact ⟨_, (true), (by first | rfl | (simp; done) | (simp [*]; done)), H', ⟨by first | omega | exact Nat.le_refl _⟩, ⟨by (with_reducible repeat (first | refine blk_drewN ?_ _ | refine blk_drew ?_ | refine blk_alloc ?_ _)); exact BK510.out⟩, ⟨hB HB⟩⟩
  rw [if_pos c5] at H
  have c5b0 : ((l0_1.length : Int) == 2) = true := beq_iff_eq.mpr c5
  have c5b1 : ((l0_1.length : Int) != 2) = false := bne_eq_false_iff_eq.mpr c5
  clear c5
  by_cases c6 : (l0_2.length : Int) > 12
  ·rw [if_pos c6] at H
   have c6b0 : decide (12 < (l0_2.length : Int)) = true := decide_eq_true c6
   have c6b1 : decide (12 < l0_2.length) = true := decide_eq_true (by omega)
   clear c6
   have H' := Aside0.mk H
   clear H
   have hcz7_0 : w3.cell? ⟨gb510, 0, none⟩ = some (.slice A0_0 l0_0.length c0_0) := bc_ BK510 0
   have hcz7_1 : w3.cell? ⟨gb510, 1, none⟩ = some (.slice A0_1 l0_1.length c0_1) := bc_ BK510 1
   have hcz7_2 : w3.cell? ⟨gb510, 2, none⟩ = some (.slice A0_2 l0_2.length c0_2) := bc_ BK510 2
   have hfz7_0 := blk_frozen BK510.out 0
   have hfz7_1 := blk_frozen BK510.out 1
   have hfz7_2 := blk_frozen BK510.out 2
   go_wp2
   go_meet
   case rel => exact ⟨_, (true), (by first | rfl | (simp; done) | (simp [*]; done)), H', ⟨by first | omega | exact Nat.le_refl _⟩, ⟨by (with_reducible repeat (first | refine blk_drewN ?_ _ | refine blk_drew ?_ | refine blk_alloc ?_ _)); exact BK510.out⟩, ⟨hB HB⟩⟩
  rw [if_neg c6] at H
  have c6b0 : decide (12 < (l0_2.length : Int)) = false := decide_eq_false c6
  have c6b1 : decide (12 < l0_2.length) = false := decide_eq_false (by omega)
  clear c6
  replace H := Option.bind_eq_some_iff.mp H
  obtain ⟨t511, A80, H⟩ := H
  replace H : (if t511 = true then ((impl_allIn.f k l0_1 0 3).bind fun t512 => (impl_GoodPair.j0 k (!t512) l0_0 l0_1 l0_2)) else (impl_GoodPair.j0 k true l0_0 l0_1 l0_2)) = some r := H
  have A8 := Aside0.mk A80
  clear A80
  by_cases c9 : t511 = true
  rotate_left
  ·replace c9 := Bool.eq_false_iff.mpr c9
   subst c9
   rw [if_neg (show ¬ (false = true) by decide)] at H
   have H' := Aside0.mk H
   clear H
   have hcz12_0 : w3.cell? ⟨gb510, 0, none⟩ = some (.slice A0_0 l0_0.length c0_0) := bc_ BK510 0
   have hcz12_1 : w3.cell? ⟨gb510, 1, none⟩ = some (.slice A0_1 l0_1.length c0_1) := bc_ BK510 1
   have hcz12_2 : w3.cell? ⟨gb510, 2, none⟩ = some (.slice A0_2 l0_2.length c0_2) := bc_ BK510 2
   have hfz12_0 := blk_frozen BK510.out 0
   have hfz12_1 := blk_frozen BK510.out 1
   have hfz12_2 := blk_frozen BK510.out 2
   go_wp2_with (first | (go_at_call 152; (with_reducible refine (impl_allIn.calls k _ _ l0_0 0 2 false _ ?side1 ?side2 A8.out).mono ?_); (case side1 => exact ca (Kd.C_below HR0_0.out HB.out)); (case side2 => exact HC0_0.out); rintro e w' ⟨rfl, ⟨nd, rfl⟩⟩))
   go_meet
   case rel => exact ⟨_, (true), (by first | rfl | (simp; done) | (simp [*]; done)), H', ⟨by first | omega | exact Nat.le_refl _⟩, ⟨by (with_reducible repeat (first | refine blk_drewN ?_ _ | refine blk_drew ?_ | refine blk_alloc ?_ _)); exact BK510.out⟩, ⟨hB HB⟩⟩
  subst c9
  rw [if_pos rfl] at H
  replace H := Option.bind_eq_some_iff.mp H
  obtain ⟨t512, A100, H⟩ := H
  replace H : (impl_GoodPair.j0 k (!t512) l0_0 l0_1 l0_2) = some r := H
  have A10 := Aside0.mk A100
  clear A100
  have H' := Aside0.mk H
  clear H
  have hcz11_0 : w3.cell? ⟨gb510, 0, none⟩ = some (.slice A0_0 l0_0.length c0_0) := bc_ BK510 0
  have hcz11_1 : w3.cell? ⟨gb510, 1, none⟩ = some (.slice A0_1 l0_1.length c0_1) := bc_ BK510 1
  have hcz11_2 : w3.cell? ⟨gb510, 2, none⟩ = some (.slice A0_2 l0_2.length c0_2) := bc_ BK510 2
  have hfz11_0 := blk_frozen BK510.out 0
  have hfz11_1 := blk_frozen BK510.out 1
  have hfz11_2 := blk_frozen BK510.out 2
  go_wp2_with (first | (go_at_call 152; (with_reducible refine (impl_allIn.calls k _ _ l0_0 0 2 true _ ?side1 ?side2 A8.out).mono ?_); (case side1 => exact ca (Kd.C_below HR0_0.out HB.out)); (case side2 => exact HC0_0.out); rintro e w' ⟨rfl, ⟨nd, rfl⟩⟩) | (go_at_call 152; (with_reducible refine (impl_allIn.calls k _ _ l0_1 0 3 t512 _ ?side1 ?side2 A10.out).mono ?_); (case side1 => exact ca (Kd.C_below HR0_1.out (hB HB))); (case side2 => exact HC0_1.out); rintro e w' ⟨rfl, ⟨nd, rfl⟩⟩))
  go_meet
  case rel => exact ⟨_, (!t512), (by first | rfl | (simp; done) | (simp [*]; done)), H', ⟨by first | omega | exact Nat.le_refl _⟩, ⟨by (with_reducible repeat (first | refine blk_drewN ?_ _ | refine blk_drew ?_ | refine blk_alloc ?_ _)); exact BK510.out⟩, ⟨hB HB⟩⟩
 case rest =>
  clear HC2
  obtain ⟨kq, x34_1, rfl, HA, HJ1, BK510, HB⟩ := hcut
  cases kq with
  | zero => exact absurd HA.out (by simp [impl_GoodPair.j0])
  | succ kj1 =>
   have H := HA.out
   clear HA
   simp only [impl_GoodPair.j0] at H
   by_cases c15 : x34_1 = true
   ·subst c15
    rw [if_pos rfl] at H
    obtain rfl := Option.some.inj H
    go_wp2
    go_ret
    exact ⟨by first | rfl | (simp [errW_none, errW_some] <;> rfl) | (simp [*, errW_none, errW_some] <;> rfl), by repeat (first | (with_reducible first | exact HB.out | apply below_alloc | apply pw_below_drewN | apply below_drew1 | refine below_set ?_ GE510.out) | exact HB.out)⟩
   replace c15 := Bool.eq_false_iff.mpr c15
   subst c15
   rw [if_neg (show ¬ (false = true) by decide)] at H
   have H' := Aside0.mk H
   clear H
   have hcz16_0 : wc.cell? ⟨gb510, 0, none⟩ = some (.slice A0_0 l0_0.length c0_0) := bc_ BK510 0
   have hcz16_1 : wc.cell? ⟨gb510, 1, none⟩ = some (.slice A0_1 l0_1.length c0_1) := bc_ BK510 1
   have hcz16_2 : wc.cell? ⟨gb510, 2, none⟩ = some (.slice A0_2 l0_2.length c0_2) := bc_ BK510 2
   have hfz16_0 := blk_frozen BK510.out 0
   have hfz16_1 := blk_frozen BK510.out 1
   have hfz16_2 := blk_frozen BK510.out 2
   go_wp2
   go_loopg [38] kj1 (fun kq v38 w' => ∃ (x38_2 : Int), v38 = .int .i64 x38_2 ∧ Aside0 (impl_GoodPair.l0 kq l0_1 (l0_1.length : Int) x38_2 l0_0 l0_1 l0_2 = some r) ∧ Aside0 (kq ≤ kj1) ∧ Aside0 (w'.heap[gb510]? = some (.cells #[(.slice A0_0 l0_0.length c0_0), (.slice A0_1 l0_1.length c0_1), (.slice A0_2 l0_2.length c0_2)] 47 (0, 0))) ∧ Aside0 (Below w.heap.size w w'))
   case atStart => exact ⟨(0), (by first | rfl | (simp; done) | (simp [*]; done)), H', ⟨Nat.le_refl _⟩, ⟨by (with_reducible repeat (first | refine blk_drewN ?_ _ | refine blk_drew ?_ | refine blk_alloc ?_ _)); exact BK510.out⟩, ⟨hB HB⟩⟩
   case round =>
    clear H'
    try clear c15
    try clear hcz16_0
    try clear hcz16_1
    try clear hcz16_2
    try clear hfz16_0
    try clear hfz16_1
    try clear hfz16_2
    obtain ⟨x38_2, rfl, HA, HK2, BK510, HB⟩ := hrel
    cases gk with
    | zero => exact absurd HA.out (by simp [impl_GoodPair.l0])
    | succ k2 =>
     have H := HA.out
     clear HA
     simp only [impl_GoodPair.l0] at H
     by_cases c17 : x38_2 < (l0_1.length : Int)
     ·rw [if_pos c17] at H
      have c17b0 : decide (x38_2 < (l0_1.length : Int)) = true := decide_eq_true c17
      clear c17
      by_cases c18 : 0 ≤ x38_2
      rotate_left
      ·rw [if_neg c18] at H
       exact absurd H (by simp)
      rw [if_pos c18] at H
      have c18b0 : decide (0 ≤ x38_2) = true := decide_eq_true c18
      clear c18
      by_cases c19 : x38_2 < (l0_1.length : Int)
      rotate_left
      ·rw [if_neg c19] at H
       exact absurd H (by simp)
      rw [if_pos c19] at H
      have c19b0 : decide (x38_2 < (l0_1.length : Int)) = true := decide_eq_true c19
      clear c19
      by_cases c20 : x38_2 < (l0_0.length : Int)
      rotate_left
      ·rw [if_neg c20] at H
       exact absurd H (by simp)
      rw [if_pos c20] at H
      have c20b0 : decide (x38_2 < (l0_0.length : Int)) = true := decide_eq_true c20
      clear c20
      by_cases c21 : (((rd l0_1 x38_2) == 0) != ((rd l0_0 x38_2) == 0)) = true
      rotate_left
      ·rw [if_neg c21] at H
       have c21b0 : (((rd l0_1 x38_2) == 0) != ((rd l0_0 x38_2) == 0)) = false := by simpa using c21
       (try (have c21b1 : decide (((rd l0_1 x38_2) == 0) = ((rd l0_0 x38_2) == 0)) = true := by simpa using c21))
       (try (have c21b2 : (((rd l0_1 x38_2) == 0) == ((rd l0_0 x38_2) == 0)) = true := by simpa using c21))
       clear c21
       have H' := Aside0.mk H
       clear H
       have p513 : 0 ≤ (x38_2 : Int) := of_decide_eq_true (by first | (with_reducible assumption) | assumption)
       have q513 : x38_2 < (l0_1.length : Int) := of_decide_eq_true (by first | (with_reducible assumption) | assumption)
       obtain ⟨ad513, e513, hx513_0⟩ := Kd.at_int HR0_1.out x38_2 p513 q513
       cases e513
       replace hx513_0 := (HB.out.cell (World.block_lt_of_cell? w _ hx513_0)).trans hx513_0
       replace p513 := eq_true p513
       replace q513 := eq_true q513
       have hcz23_0 : wr.cell? ⟨gb510, 0, none⟩ = some (.slice A0_0 l0_0.length c0_0) := bc_ BK510 0
       have hcz23_1 : wr.cell? ⟨gb510, 1, none⟩ = some (.slice (some ad513) l0_1.length c0_1) := bc_ BK510 1
       have hcz23_2 : wr.cell? ⟨gb510, 2, none⟩ = some (.slice A0_2 l0_2.length c0_2) := bc_ BK510 2
       have hfz23_0 := blk_frozen BK510.out 0
       have hfz23_1 := blk_frozen BK510.out 1
       have hfz23_2 := blk_frozen BK510.out 2
       have p514 : 0 ≤ (x38_2 : Int) := of_decide_eq_true (by first | (with_reducible assumption) | assumption)
       have q514 : x38_2 < (l0_0.length : Int) := of_decide_eq_true (by first | (with_reducible assumption) | assumption)
       obtain ⟨ad514, e514, hx514_0⟩ := Kd.at_int HR0_0.out x38_2 p514 q514
       cases e514
       replace hx514_0 := (HB.out.cell (World.block_lt_of_cell? w _ hx514_0)).trans hx514_0
       replace p514 := eq_true p514
       replace q514 := eq_true q514
       go_wp2
       go_roundg k2
       case measure => have := HJ1.out; have := HK2.out; omega
       case rel => exact ⟨(wrap64 (x38_2 + 1)), (by first | rfl | (simp; done) | (simp [*]; done)), H', ⟨by have := HJ1.out; have := HK2.out; omega⟩, ⟨by (with_reducible repeat (first | refine blk_drewN ?_ _ | refine blk_drew ?_ | refine blk_alloc ?_ _)); exact BK510.out⟩, ⟨hB HB⟩⟩
      rw [if_pos c21] at H
      have c21b0 : (((rd l0_1 x38_2) == 0) != ((rd l0_0 x38_2) == 0)) = true := c21
      (try (have c21b1 : decide (((rd l0_1 x38_2) == 0) = ((rd l0_0 x38_2) == 0)) = false := by simpa using c21))
      (try (have c21b2 : (((rd l0_1 x38_2) == 0) == ((rd l0_0 x38_2) == 0)) = false := by simpa using c21))
      (try (have c21b3 : ¬ (((rd l0_1 x38_2) == 0) = ((rd l0_0 x38_2) == 0)) := by simpa using c21))
      clear c21
      obtain rfl := Option.some.inj H
      have p513 : 0 ≤ (x38_2 : Int) := of_decide_eq_true (by first | (with_reducible assumption) | assumption)
      have q513 : x38_2 < (l0_1.length : Int) := of_decide_eq_true (by first | (with_reducible assumption) | assumption)
      obtain ⟨ad513, e513, hx513_0⟩ := Kd.at_int HR0_1.out x38_2 p513 q513
      cases e513
      replace hx513_0 := (HB.out.cell (World.block_lt_of_cell? w _ hx513_0)).trans hx513_0
      replace p513 := eq_true p513
      replace q513 := eq_true q513
      have hcz22_0 : wr.cell? ⟨gb510, 0, none⟩ = some (.slice A0_0 l0_0.length c0_0) := bc_ BK510 0
      have hcz22_1 : wr.cell? ⟨gb510, 1, none⟩ = some (.slice (some ad513) l0_1.length c0_1) := bc_ BK510 1
      have hcz22_2 : wr.cell? ⟨gb510, 2, none⟩ = some (.slice A0_2 l0_2.length c0_2) := bc_ BK510 2
      have hfz22_0 := blk_frozen BK510.out 0
      have hfz22_1 := blk_frozen BK510.out 1
      have hfz22_2 := blk_frozen BK510.out 2
      have p514 : 0 ≤ (x38_2 : Int) := of_decide_eq_true (by first | (with_reducible assumption) | assumption)
      have q514 : x38_2 < (l0_0.length : Int) := of_decide_eq_true (by first | (with_reducible assumption) | assumption)
      obtain ⟨ad514, e514, hx514_0⟩ := Kd.at_int HR0_0.out x38_2 p514 q514
      cases e514
      replace hx514_0 := (HB.out.cell (World.block_lt_of_cell? w _ hx514_0)).trans hx514_0
      replace p514 := eq_true p514
      replace q514 := eq_true q514
      go_wp2
      go_ret
      exact ⟨by first | rfl | (simp [errW_none, errW_some] <;> rfl) | (simp [*, errW_none, errW_some] <;> rfl), by repeat (first | (with_reducible first | exact HB.out | apply below_alloc | apply pw_below_drewN | apply below_drew1 | refine below_set ?_ GE510.out) | exact HB.out)⟩
     rw [if_neg c17] at H
     have c17b0 : decide (x38_2 < (l0_1.length : Int)) = false := decide_eq_false c17
     clear c17
     have H' := Aside0.mk H
     clear H
     have hcz24_0 : wr.cell? ⟨gb510, 0, none⟩ = some (.slice A0_0 l0_0.length c0_0) := bc_ BK510 0
     have hcz24_1 : wr.cell? ⟨gb510, 1, none⟩ = some (.slice A0_1 l0_1.length c0_1) := bc_ BK510 1
     have hcz24_2 : wr.cell? ⟨gb510, 2, none⟩ = some (.slice A0_2 l0_2.length c0_2) := bc_ BK510 2
     have hfz24_0 := blk_frozen BK510.out 0
     have hfz24_1 := blk_frozen BK510.out 1
     have hfz24_2 := blk_frozen BK510.out 2
     go_wp2
     go_loopg [56] k2 (fun kq v56 w' => ∃ (x56_3 : Int), v56 = .int .i64 x56_3 ∧ Aside0 (impl_GoodPair.l1 kq l0_2 (l0_2.length : Int) x56_3 = some r) ∧ Aside0 (kq ≤ k2) ∧ Aside0 (w'.heap[gb510]? = some (.cells #[(.slice A0_0 l0_0.length c0_0), (.slice A0_1 l0_1.length c0_1), (.slice A0_2 l0_2.length c0_2)] 47 (0, 0))) ∧ Aside0 (Below w.heap.size w w'))
     case atStart => exact ⟨(0), (by first | rfl | (simp; done) | (simp [*]; done)), H', ⟨Nat.le_refl _⟩, ⟨by (with_reducible repeat (first | refine blk_drewN ?_ _ | refine blk_drew ?_ | refine blk_alloc ?_ _)); exact BK510.out⟩, ⟨hB HB⟩⟩
     case round =>
      clear H'
      try clear c15
      try clear c17
      try clear c17b0
      try clear hcz16_0
      try clear hcz16_1
      try clear hcz16_2
      try clear hcz24_0
      try clear hcz24_1
      try clear hcz24_2
      try clear hfz16_0
      try clear hfz16_1
      try clear hfz16_2
      try clear hfz24_0
      try clear hfz24_1
      try clear hfz24_2
      obtain ⟨x56_3, rfl, HA, HK3, BK510, HB⟩ := hrel
      cases gk with
      | zero => exact absurd HA.out (by simp [impl_GoodPair.l1])
      | succ k3 =>
       have H := HA.out
       clear HA
       simp only [impl_GoodPair.l1] at H
       by_cases c25 : x56_3 < (l0_2.length : Int)
       rotate_left
       ·rw [if_neg c25] at H
        have c25b0 : decide (x56_3 < (l0_2.length : Int)) = false := decide_eq_false c25
        clear c25
        obtain rfl := Option.some.inj H
        go_wp2
        go_ret
        exact ⟨by first | rfl | (simp [errW_none, errW_some] <;> rfl) | (simp [*, errW_none, errW_some] <;> rfl), by repeat (first | (with_reducible first | exact HB.out | apply below_alloc | apply pw_below_drewN | apply below_drew1 | refine below_set ?_ GE510.out) | exact HB.out)⟩
       rw [if_pos c25] at H
       have c25b0 : decide (x56_3 < (l0_2.length : Int)) = true := decide_eq_true c25
       clear c25
       by_cases c26 : 0 ≤ x56_3
       rotate_left
       ·rw [if_neg c26] at H
        exact absurd H (by simp)
       rw [if_pos c26] at H
       have c26b0 : decide (0 ≤ x56_3) = true := decide_eq_true c26
       clear c26
       by_cases c27 : x56_3 < (l0_2.length : Int)
       rotate_left
       ·rw [if_neg c27] at H
        exact absurd H (by simp)
       rw [if_pos c27] at H
       have c27b0 : decide (x56_3 < (l0_2.length : Int)) = true := decide_eq_true c27
       clear c27
       replace H := Option.bind_eq_some_iff.mp H
       obtain ⟨t517, A280, H⟩ := H
       replace H : (if t517 = true then (impl_GoodPair.l1 k3 l0_2 (l0_2.length : Int) (wrap64 (x56_3 + 1))) else (some false)) = some r := H
       have A28 := Aside0.mk A280
       clear A280
       by_cases c29 : t517 = true
       rotate_left
       ·replace c29 := Bool.eq_false_iff.mpr c29
        subst c29
        rw [if_neg (show ¬ (false = true) by decide)] at H
        obtain rfl := Option.some.inj H
        have p515 : 0 ≤ (x56_3 : Int) := of_decide_eq_true (by first | (with_reducible assumption) | assumption)
        have q515 : x56_3 < (l0_2.length : Int) := of_decide_eq_true (by first | (with_reducible assumption) | assumption)
        obtain ⟨ad515, e515, hx515_0, hx515_1⟩ := at_T127 HR0_2.out x56_3 p515 q515
        cases e515
        replace hx515_0 := (HB.out.cell (World.block_lt_of_cell? w _ hx515_0)).trans hx515_0
        replace hx515_1 := (HB.out.cell (World.block_lt_of_cell? w _ hx515_1)).trans hx515_1
        replace p515 := eq_true p515
        replace q515 := eq_true q515
        go_wp2_with (first | ((with_reducible refine gate_dst (N := 6) rfl ?_); (try (refine gate_guard (by rfl) ?_; dsimp only)); refine box_event ?hg (N := 6) ?hd (cs := #[.int .i64 0, .bool false]) (t := 127) ?hr ?_; (case hd => rfl); (case hg => rfl); (case hr => first | (go_simp; done) | (go_simp; rfl)); intro gb516 hg w33 hbox hb; have BK516 := Aside0.mk (hbox); have GW516 := gw_ hg HB; have GE516 := gw_ hg HB; have NB510_516 := nl_ hg BK510; have NB516_510 := ng_ hg BK510; replace BK510 := bb_ BK510 hb; replace HB := bst_ HB hb; clear hb hbox hg; have hnb34 := NB516_510.out; have hnc34 := NB510_516.out; have hcz35_0 : w33.cell? ⟨gb516, 0, none⟩ = some (.int .i64 0) := bc_ BK516 0; have hcz35_1 : w33.cell? ⟨gb516, 1, none⟩ = some (.bool false) := bc_ BK516 1; have hfz35_0 := blk_frozen BK516.out 0; have hfz35_1 := blk_frozen BK516.out 1) | ((with_reducible refine gate_callee (f := 92) rfl ?_); refine goesL_ (some 62) rfl rfl Try.func92 (by kernel_rfl) rfl #[.int .i64 ((rd_T127 l0_2 x56_3).f0), .int .i64 0, .int .i64 1] rfl tm_ ?_; (with_reducible refine (impl_in.calls ((rd_T127 l0_2 x56_3).f0) 0 1 false _ A28.out).mono ?_); rintro e w' ⟨rfl, ⟨nd, rfl⟩⟩; refine ⟨_, rfl, ?_⟩))
        go_ret
        exact ⟨by first | rfl | (simp [errW_none, errW_some] <;> rfl) | (simp [*, errW_none, errW_some] <;> rfl), by repeat (first | (with_reducible first | exact HB.out | apply below_alloc | apply pw_below_drewN | apply below_drew1 | refine below_set ?_ GE510.out | refine below_set ?_ GE516.out) | exact HB.out)⟩
       subst c29
       rw [if_pos rfl] at H
       have H' := Aside0.mk H
       clear H
       have p515 : 0 ≤ (x56_3 : Int) := of_decide_eq_true (by first | (with_reducible assumption) | assumption)
       have q515 : x56_3 < (l0_2.length : Int) := of_decide_eq_true (by first | (with_reducible assumption) | assumption)
       obtain ⟨ad515, e515, hx515_0, hx515_1⟩ := at_T127 HR0_2.out x56_3 p515 q515
       cases e515
       replace hx515_0 := (HB.out.cell (World.block_lt_of_cell? w _ hx515_0)).trans hx515_0
       replace hx515_1 := (HB.out.cell (World.block_lt_of_cell? w _ hx515_1)).trans hx515_1
       replace p515 := eq_true p515
       replace q515 := eq_true q515
       go_wp2_with (first | ((with_reducible refine gate_dst (N := 6) rfl ?_); (try (refine gate_guard (by rfl) ?_; dsimp only)); refine box_event ?hg (N := 6) ?hd (cs := #[.int .i64 0, .bool false]) (t := 127) ?hr ?_; (case hd => rfl); (case hg => rfl); (case hr => first | (go_simp; done) | (go_simp; rfl)); intro gb516 hg w30 hbox hb; have BK516 := Aside0.mk (hbox); have GW516 := gw_ hg HB; have GE516 := gw_ hg HB; have NB510_516 := nl_ hg BK510; have NB516_510 := ng_ hg BK510; replace BK510 := bb_ BK510 hb; replace HB := bst_ HB hb; clear hb hbox hg; have hnb31 := NB516_510.out; have hnc31 := NB510_516.out; have hcz32_0 : w30.cell? ⟨gb516, 0, none⟩ = some (.int .i64 0) := bc_ BK516 0; have hcz32_1 : w30.cell? ⟨gb516, 1, none⟩ = some (.bool false) := bc_ BK516 1; have hfz32_0 := blk_frozen BK516.out 0; have hfz32_1 := blk_frozen BK516.out 1) | ((with_reducible refine gate_callee (f := 92) rfl ?_); refine goesL_ (some 62) rfl rfl Try.func92 (by kernel_rfl) rfl #[.int .i64 ((rd_T127 l0_2 x56_3).f0), .int .i64 0, .int .i64 1] rfl tm_ ?_; (with_reducible refine (impl_in.calls ((rd_T127 l0_2 x56_3).f0) 0 1 true _ A28.out).mono ?_); rintro e w' ⟨rfl, ⟨nd, rfl⟩⟩; refine ⟨_, rfl, ?_⟩))
       go_roundg k3
       case measure => have := HJ1.out; have := HK2.out; have := HK3.out; omega
       case rel => exact ⟨(wrap64 (x56_3 + 1)), (by first | rfl | (simp; done) | (simp [*]; done)), H', ⟨by have := HJ1.out; have := HK2.out; have := HK3.out; omega⟩, ⟨by (with_reducible repeat (first | refine blk_drewN ?_ _ | refine blk_drew ?_ | refine blk_alloc ?_ _)); refine blk_far ?_ NB510_516.out _; (with_reducible repeat (first | refine blk_drewN ?_ _ | refine blk_drew ?_ | refine blk_alloc ?_ _)); refine blk_far ?_ NB510_516.out _; (with_reducible repeat (first | refine blk_drewN ?_ _ | refine blk_drew ?_ | refine blk_alloc ?_ _)); exact BK510.out⟩, ⟨hB HB⟩⟩

def slices_Clone_int_int.f (l0 : List Int) : Option (List Int) := (some (([] : List Int) : List Int)).bind fun y518 => (if y518.length + l0.length < 17592186044416 then (some (y518 ++ l0)) else (none))
set_option maxHeartbeats 8000000 in
set_option maxRecDepth 100000 in
theorem slices_Clone_int_int.calls (A0 : Option Addr) (c0 : Nat) (l0 : List Int) (r : List Int) (w : World) (hr0 : Kd.C (Kd.int .i64) w A0 l0.length l0) (hc0 : l0.length ≤ c0) (h : slices_Clone_int_int.f l0 = some r) :
  Calls Try.prog 159 #[.slice A0 l0.length c0] w fun e w' => ∃ v0_ : Value, e = .returned (v0_) ∧ Kd.R (Kd.int .i64) 3 w' w.heap.size (fun _ => True) v0_ r ∧ Below w.heap.size w w' := by
 have hq_ : ∀ (w : World) (a : Option Addr) (l c : Nat), (binOp .eql 24 (.slice a l c) (.slice none 0 0)).run Try.prog w = .ok (.bool a.isNone) w := fun w a l c => Go.run_eql_slice_nil w 24 _ a l c Try.underlying24
 rcases A0 with _ | A0
 ·have hl0 : l0 = [] := by
   cases l0 with
   | nil => rfl
   | cons x t => exact absurd (hr0.2.2 (by simp)) (by simp)
  subst hl0
  obtain rfl : r = [] := by
   have := Option.some.inj ((show some ([] : List _) = some r from by simpa [slices_Clone_int_int.f] using h))
   exact this.symm
  go_enter Try.func159, Try.ntmps159
  go_wp2
  go_ret
  exact ⟨_, rfl, Kd.R_nil _ _ _ _ _, Below.refl _ _⟩
 have HR0 := Aside0.mk hr0
 have HC0 := Aside0.mk hc0
 clear hr0 hc0
 have HB := Aside0.mk (Below.refl w.heap.size w)
 have H : ((some (([] : List Int) : List Int)).bind fun y518 => (if y518.length + l0.length < 17592186044416 then (some (y518 ++ l0)) else (none))) = some r := h
 clear h
 obtain ⟨y518, hy518⟩ : ∃ y_ : List Int, y_ = (([] : List Int)) := ⟨_, rfl⟩
 replace H : (if y518.length + l0.length < 17592186044416 then (some (y518 ++ l0)) else (none)) = some r := by first | (rw [hy518]; with_reducible exact H) | (have H2_ := (Option.bind_some _ _).symm.trans H; rw [hy518]; with_reducible exact H2_) | (have H2_ := (Option.bind_some _ _).symm.trans H; with_reducible exact H2_) | with_reducible exact H | (rw [hy518]; exact H) | exact H
 have Ny518 := Aside0.mk hy518
 clear hy518
 by_cases c2 : y518.length + l0.length < 17592186044416
 rotate_left
 ·rw [if_neg c2] at H
  exact absurd H (by simp)
 rw [if_pos c2] at H
 have LMc2 := Aside0.mk c2
 clear c2
 obtain ⟨y521, hy521⟩ : ∃ y_ : List Int, y_ = (y518 ++ l0) := ⟨_, rfl⟩
 replace H : (some y521) = some r := by first | (rw [hy521]; with_reducible exact H) | (have H2_ := (Option.bind_some _ _).symm.trans H; rw [hy521]; with_reducible exact H2_) | (have H2_ := (Option.bind_some _ _).symm.trans H; with_reducible exact H2_) | with_reducible exact H | (rw [hy521]; exact H) | exact H
 have Ny521 := Aside0.mk hy521
 clear hy521
 obtain rfl := Option.some.inj H
 go_enter Try.func159, Try.ntmps159
 go_wp2_with (first | ((with_reducible refine gate_dst (N := 5) rfl ?_); refine Kd.R_lit (Kd.int .i64) _ 3 ?hg (N := 5) ?hd (xs := ([] : List Int)) (inner := []) (ok := fun _ => True) (okp := fun _ => True) ?hr ?hp (fun _ hk => hk) trivial (Below.refl _ _) (Nat.le_refl _) (by simp) ?_; (case hd => rfl); (case hg => rfl); (case hr => first | (go_simp; done) | (go_simp; rfl)); (case hp => exact (Reps.none _ _)); intro v519 w3 ho4 hb hg_ hnew_; clear hg_ hnew_; (first | rw [← Ny518.out] at ho4 | (simp only [Int.reduceToNat] at ho4; rw [← Ny518.out] at ho4)); have HO520 := Aside0.mk (Kd.R_lower ho4 (below_size (hB HB))); replace HB := bst_ HB hb; clear hb ho4) | ((with_reducible refine gate_builtin (b := .append) (xs := #[.tmp 5, .tmp 6]) rfl ?_); at_builtin; refine Kd.R_append_rows (Kd.int .i64) (w0 := w) w.heap.size rfl (.tmp 5) (.tmp 6) 24 3 (.int .i64 0) 8 rfl Try.underlying24 info3 rfl (by decide) (by omega) v519 y518 l0 _ _ _ (fun _ => True) (fun _ => False) rfl rfl ?aO ?aR (fun _ _ h => h) (fun _ h => h.elim) ?aF ?aB ?aS ?aL ?_; (case aR => exact ca (Kd.C_below HR0.out HB.out)); (case aB => exact (hB HB)); (case aF => exact (fun _ _ => trivial)); (case aO => exact (ra HO520.out)); (case aS => exact (below_size (hB HB))); (case aL => have := LMc2.out; omega); intro v522 w5 ho hb hg hat; rw [← Ny521.out] at ho; have HO523 := Aside0.mk (ho); replace HB := Aside0.mk (hb); clear HO520; clear ho hb hg hat))
 go_ret
 exact ⟨_, by first | rfl | (simp [errW_none, errW_some] <;> rfl) | (simp [*, errW_none, errW_some] <;> rfl), by (with_reducible repeat (first | apply Kd.R_alloc | apply Kd.R_drewN | apply Kd.R_drew)); exact HO523.out, by repeat (first | (with_reducible first | exact HB.out | apply below_alloc | apply pw_below_drewN | apply below_drew1) | exact HB.out)⟩

def impl_Hello_160.f (l0 : List (S127)) : Option ((List (S127))) := (some (([] : List (S127)) : List (S127))).bind fun y524 => (if y524.length + l0.length < 8796093022208 then (some (y524 ++ l0)) else (none))
set_option maxHeartbeats 8000000 in
set_option maxRecDepth 100000 in
theorem impl_Hello_160.calls (A0 : Option Addr) (c0 : Nat) (l0 : List (S127)) (r : List (S127)) (w : World) (hr0 : Kd.C k127 w A0 l0.length l0) (hc0 : l0.length ≤ c0) (h : impl_Hello_160.f l0 = some r) :
  Calls Try.prog 160 #[.slice A0 l0.length c0] w fun e w' => ∃ v0_ : Value, e = .returned (v0_) ∧ Kd.R k127 127 w' w.heap.size (fun _ => True) v0_ r ∧ Below w.heap.size w w' := by
 have hq_ : ∀ (w : World) (a : Option Addr) (l c : Nat), (binOp .eql 45 (.slice a l c) (.slice none 0 0)).run Try.prog w = .ok (.bool a.isNone) w := fun w a l c => Go.run_eql_slice_nil w 45 _ a l c Try.underlying45
 rcases A0 with _ | A0
 ·have hl0 : l0 = [] := by
   cases l0 with
   | nil => rfl
   | cons x t => exact absurd (hr0.2.2 (by simp)) (by simp)
  subst hl0
  obtain rfl : r = [] := by
   have := Option.some.inj ((show some ([] : List _) = some r from by simpa [impl_Hello_160.f] using h))
   exact this.symm
  go_enter Try.func160, Try.ntmps160
  go_wp2
  go_ret
  exact ⟨_, rfl, Kd.R_nil _ _ _ _ _, Below.refl _ _⟩
 have HR0 := Aside0.mk hr0
 have HC0 := Aside0.mk hc0
 clear hr0 hc0
 have HB := Aside0.mk (Below.refl w.heap.size w)
 have H : ((some (([] : List (S127)) : List (S127))).bind fun y524 => (if y524.length + l0.length < 8796093022208 then (some (y524 ++ l0)) else (none))) = some r := h
 clear h
 obtain ⟨y524, hy524⟩ : ∃ y_ : List (S127), y_ = (([] : List (S127))) := ⟨_, rfl⟩
 replace H : (if y524.length + l0.length < 8796093022208 then (some (y524 ++ l0)) else (none)) = some r := by first | (rw [hy524]; with_reducible exact H) | (have H2_ := (Option.bind_some _ _).symm.trans H; rw [hy524]; with_reducible exact H2_) | (have H2_ := (Option.bind_some _ _).symm.trans H; with_reducible exact H2_) | with_reducible exact H | (rw [hy524]; exact H) | exact H
 have Ny524 := Aside0.mk hy524
 clear hy524
 by_cases c2 : y524.length + l0.length < 8796093022208
 rotate_left
 ·rw [if_neg c2] at H
  exact absurd H (by simp)
 rw [if_pos c2] at H
 have LMc2 := Aside0.mk c2
 clear c2
 obtain ⟨y527, hy527⟩ : ∃ y_ : List (S127), y_ = (y524 ++ l0) := ⟨_, rfl⟩
 replace H : (some y527) = some r := by first | (rw [hy527]; with_reducible exact H) | (have H2_ := (Option.bind_some _ _).symm.trans H; rw [hy527]; with_reducible exact H2_) | (have H2_ := (Option.bind_some _ _).symm.trans H; with_reducible exact H2_) | with_reducible exact H | (rw [hy527]; exact H) | exact H
 have Ny527 := Aside0.mk hy527
 clear hy527
 obtain rfl := Option.some.inj H
 go_enter Try.func160, Try.ntmps160
 go_wp2_with (first | ((with_reducible refine gate_dst (N := 5) rfl ?_); refine Kd.R_lit k127 _ 127 ?hg (N := 5) ?hd (xs := ([] : List (S127))) (inner := []) (ok := fun _ => True) (okp := fun _ => True) ?hr ?hp (fun _ hk => hk) trivial (Below.refl _ _) (Nat.le_refl _) (by simp) ?_; (case hd => rfl); (case hg => rfl); (case hr => first | (go_simp; done) | (go_simp; rfl)); (case hp => exact (Reps.none _ _)); intro v525 w3 ho4 hb hg_ hnew_; clear hg_ hnew_; (first | rw [← Ny524.out] at ho4 | (simp only [Int.reduceToNat] at ho4; rw [← Ny524.out] at ho4)); have HO526 := Aside0.mk (Kd.R_lower ho4 (below_size (hB HB))); replace HB := bst_ HB hb; clear hb ho4) | ((with_reducible refine gate_builtin (b := .append) (xs := #[.tmp 5, .tmp 6]) rfl ?_); at_builtin; refine Kd.R_append_rows k127 (w0 := w) w.heap.size rfl (.tmp 5) (.tmp 6) 45 127 (.agg #[(.int .i64 0), (.bool false)]) 16 rfl Try.underlying45 info127 rfl (by decide) (by omega) v525 y524 l0 _ _ _ (fun _ => True) (fun _ => False) rfl rfl ?aO ?aR (fun _ _ h => h) (fun _ h => h.elim) ?aF ?aB ?aS ?aL ?_; (case aR => exact ca (Kd.C_below HR0.out HB.out)); (case aB => exact (hB HB)); (case aF => exact (fun _ _ => trivial)); (case aO => exact (ra HO526.out)); (case aS => exact (below_size (hB HB))); (case aL => have := LMc2.out; omega); intro v528 w5 ho hb hg hat; rw [← Ny527.out] at ho; have HO529 := Aside0.mk (ho); replace HB := Aside0.mk (hb); clear HO526; clear ho hb hg hat))
 go_ret
 exact ⟨_, by first | rfl | (simp [errW_none, errW_some] <;> rfl) | (simp [*, errW_none, errW_some] <;> rfl), by (with_reducible repeat (first | apply Kd.R_alloc | apply Kd.R_drewN | apply Kd.R_drew)); exact HO529.out, by repeat (first | (with_reducible first | exact HB.out | apply below_alloc | apply pw_below_drewN | apply below_drew1) | exact HB.out)⟩

end Go.Proofs.Ytolncjkfcmbieaa.P
