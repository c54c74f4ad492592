import Derived.Test.YtefdgdloghhnaaaF0
namespace Go.Proofs.Ytefdgdloghhnaaa.P
open Go.RowKit Go.Proofs.YtefdgdloghhnaaaW.PrintWords Go.Proofs.YtefdgdloghhnaaaW.PrintLast Go.Proofs.YtefdgdloghhnaaaW.PrintMore
attribute [local go_sem] max2_int min2_int max_two min_two max_three min_three max_four min_four   -- for this text's walks alone
set_option linter.unusedVariables false
set_option linter.unusedSimpArgs false
attribute [local go_sem high] eqA36

def spec_l3Own.f (l0_0 : List Int) (l0_1 : List Int) (l0_2 : List (S36)) : Option (List Int × List Int × (List (S36))) := (some (([] : List Int) : List Int)).bind fun y215 => (if y215.length + l0_0.length < 17592186044416 then ((some (([] : List Int) : List Int)).bind fun y221 => (if y221.length + l0_1.length < 17592186044416 then ((some (([] : List (S36)) : List (S36))).bind fun y227 => (if y227.length + l0_2.length < 8796093022208 then (some ((y215 ++ l0_0), (y221 ++ l0_1), (y227 ++ l0_2))) else (none))) else (none))) else (none))
def spec_l3Own.T1 : Bool × List (List Nat × List Nat) := (true, [([], []), ([], []), ([1], [1]), ([0, 2], [0, 2]), ([], []), ([], []), ([5], [5]), ([4, 6, 3], [4, 6]), ([], []), ([], []), ([9], [9]), ([8, 10, 7], [8, 10]), ([3, 7, 11], [3, 7, 11]), ([12, 11, 0, 1, 2, 3, 4, 5, 6, 7, 8, 9, 10, 11, 12], [12])])
def spec_l3Own.B1 : List Nat := [0, 0, 2, 7, 0, 0, 32, 127, 0, 0, 512, 2047, 4095, 8191]
theorem spec_l3Own.tab1 : rtab .any (opsOf Try.f25 1) = spec_l3Own.T1 := by kernel_rfl
theorem spec_l3Own.bits1 : waitsOk spec_l3Own.T1.2 spec_l3Own.B1 = true := by kernel_rfl
set_option maxHeartbeats 8000000 in
set_option maxRecDepth 100000 in
theorem spec_l3Own.calls (A0_0 : Option Addr) (c0_0 : Nat) (l0_0 : List Int) (A0_1 : Option Addr) (c0_1 : Nat) (l0_1 : List Int) (A0_2 : Option Addr) (c0_2 : Nat) (l0_2 : List (S36)) (r1 : List Int) (r2 : List Int) (r3 : List (S36)) (w : World) (hr0_0 : Kd.C (Kd.int .i64) w A0_0 l0_0.length l0_0) (hc0_0 : l0_0.length ≤ c0_0) (hr0_1 : Kd.C (Kd.int .i64) w A0_1 l0_1.length l0_1) (hc0_1 : l0_1.length ≤ c0_1) (hr0_2 : Kd.C k36 w A0_2 l0_2.length l0_2) (hc0_2 : l0_2.length ≤ c0_2) (h : spec_l3Own.f l0_0 l0_1 l0_2 = some (r1, r2, r3)) :
  Calls Try.prog 25 #[.agg #[.slice A0_0 l0_0.length c0_0, .slice A0_1 l0_1.length c0_1, .slice A0_2 l0_2.length c0_2]] w fun e w' => ∃ v0_ v1_ v2_ : Value, e = .returned (.agg #[v0_, v1_, v2_]) ∧ Kd.R (Kd.int .i64) 3 w' w.heap.size (fun k_ => no_ v1_ k_) v0_ r1 ∧ Kd.R (Kd.int .i64) 3 w' w.heap.size (fun k_ => no_ v0_ k_) v1_ r2 ∧ Kd.R k36 36 w' w.heap.size (fun _ => True) v2_ r3 ∧ Below w.heap.size w w' := by
 have hu26 := Try.underlying26
 have HR0_0 := Aside0.mk hr0_0
 have HC0_0 := Aside0.mk hc0_0
 clear hr0_0 hc0_0
 have HR0_1 := Aside0.mk hr0_1
 have HC0_1 := Aside0.mk hc0_1
 clear hr0_1 hc0_1
 have HR0_2 := Aside0.mk hr0_2
 have HC0_2 := Aside0.mk hc0_2
 clear hr0_2 hc0_2
 have HB := Aside0.mk (Below.refl w.heap.size w)
 have H : ((some (([] : List Int) : List Int)).bind fun y215 => (if y215.length + l0_0.length < 17592186044416 then ((some (([] : List Int) : List Int)).bind fun y221 => (if y221.length + l0_1.length < 17592186044416 then ((some (([] : List (S36)) : List (S36))).bind fun y227 => (if y227.length + l0_2.length < 8796093022208 then (some ((y215 ++ l0_0), (y221 ++ l0_1), (y227 ++ l0_2))) else (none))) else (none))) else (none))) = some (r1, r2, r3) := h
 clear h
 obtain ⟨y215, hy215⟩ : ∃ y_ : List Int, y_ = (([] : List Int)) := ⟨_, rfl⟩
 replace H : (if y215.length + l0_0.length < 17592186044416 then ((some (([] : List Int) : List Int)).bind fun y221 => (if y221.length + l0_1.length < 17592186044416 then ((some (([] : List (S36)) : List (S36))).bind fun y227 => (if y227.length + l0_2.length < 8796093022208 then (some ((y215 ++ l0_0), (y221 ++ l0_1), (y227 ++ l0_2))) else (none))) else (none))) else (none)) = some (r1, r2, r3) := by first | (rw [hy215]; with_reducible exact H) | (have H2_ := (Option.bind_some _ _).symm.trans H; rw [hy215]; with_reducible exact H2_) | (have H2_ := (Option.bind_some _ _).symm.trans H; with_reducible exact H2_) | with_reducible exact H | (rw [hy215]; exact H) | exact H
 have Ny215 := Aside0.mk hy215
 clear hy215
 by_cases c2 : y215.length + l0_0.length < 17592186044416
 rotate_left
 ·rw [if_neg c2] at H
  exact absurd H (by simp)
 rw [if_pos c2] at H
 have LMc2 := Aside0.mk c2
 clear c2
 obtain ⟨y218, hy218⟩ : ∃ y_ : List Int, y_ = (y215 ++ l0_0) := ⟨_, rfl⟩
 replace H : ((some (([] : List Int) : List Int)).bind fun y221 => (if y221.length + l0_1.length < 17592186044416 then ((some (([] : List (S36)) : List (S36))).bind fun y227 => (if y227.length + l0_2.length < 8796093022208 then (some (y218, (y221 ++ l0_1), (y227 ++ l0_2))) else (none))) else (none))) = some (r1, r2, r3) := by first | (rw [hy218]; with_reducible exact H) | (have H2_ := (Option.bind_some _ _).symm.trans H; rw [hy218]; with_reducible exact H2_) | (have H2_ := (Option.bind_some _ _).symm.trans H; with_reducible exact H2_) | with_reducible exact H | (rw [hy218]; exact H) | exact H
 have Ny218 := Aside0.mk hy218
 clear hy218
 obtain ⟨y221, hy221⟩ : ∃ y_ : List Int, y_ = (([] : List Int)) := ⟨_, rfl⟩
 replace H : (if y221.length + l0_1.length < 17592186044416 then ((some (([] : List (S36)) : List (S36))).bind fun y227 => (if y227.length + l0_2.length < 8796093022208 then (some (y218, (y221 ++ l0_1), (y227 ++ l0_2))) else (none))) else (none)) = some (r1, r2, r3) := by first | (rw [hy221]; with_reducible exact H) | (have H2_ := (Option.bind_some _ _).symm.trans H; rw [hy221]; with_reducible exact H2_) | (have H2_ := (Option.bind_some _ _).symm.trans H; with_reducible exact H2_) | with_reducible exact H | (rw [hy221]; exact H) | exact H
 have Ny221 := Aside0.mk hy221
 clear hy221
 by_cases c3 : y221.length + l0_1.length < 17592186044416
 rotate_left
 ·rw [if_neg c3] at H
  exact absurd H (by simp)
 rw [if_pos c3] at H
 have LMc3 := Aside0.mk c3
 clear c3
 obtain ⟨y224, hy224⟩ : ∃ y_ : List Int, y_ = (y221 ++ l0_1) := ⟨_, rfl⟩
 replace H : ((some (([] : List (S36)) : List (S36))).bind fun y227 => (if y227.length + l0_2.length < 8796093022208 then (some (y218, y224, (y227 ++ l0_2))) else (none))) = some (r1, r2, r3) := by first | (rw [hy224]; with_reducible exact H) | (have H2_ := (Option.bind_some _ _).symm.trans H; rw [hy224]; with_reducible exact H2_) | (have H2_ := (Option.bind_some _ _).symm.trans H; with_reducible exact H2_) | with_reducible exact H | (rw [hy224]; exact H) | exact H
 have Ny224 := Aside0.mk hy224
 clear hy224
 obtain ⟨y227, hy227⟩ : ∃ y_ : List (S36), y_ = (([] : List (S36))) := ⟨_, rfl⟩
 replace H : (if y227.length + l0_2.length < 8796093022208 then (some (y218, y224, (y227 ++ l0_2))) else (none)) = some (r1, r2, r3) := by first | (rw [hy227]; with_reducible exact H) | (have H2_ := (Option.bind_some _ _).symm.trans H; rw [hy227]; with_reducible exact H2_) | (have H2_ := (Option.bind_some _ _).symm.trans H; with_reducible exact H2_) | with_reducible exact H | (rw [hy227]; exact H) | exact H
 have Ny227 := Aside0.mk hy227
 clear hy227
 by_cases c4 : y227.length + l0_2.length < 8796093022208
 rotate_left
 ·rw [if_neg c4] at H
  exact absurd H (by simp)
 rw [if_pos c4] at H
 have LMc4 := Aside0.mk c4
 clear c4
 obtain ⟨y230, hy230⟩ : ∃ y_ : List (S36), y_ = (y227 ++ l0_2) := ⟨_, rfl⟩
 replace H : (some (y218, y224, y230)) = some (r1, r2, r3) := by first | (rw [hy230]; with_reducible exact H) | (have H2_ := (Option.bind_some _ _).symm.trans H; rw [hy230]; with_reducible exact H2_) | (have H2_ := (Option.bind_some _ _).symm.trans H; with_reducible exact H2_) | with_reducible exact H | (rw [hy230]; exact H) | exact H
 have Ny230 := Aside0.mk hy230
 clear hy230
 simp only [Option.some.injEq, Prod.mk.injEq] at H
 obtain ⟨rfl, rfl, rfl⟩ := H
 go_enter Try.func25, Try.ntmps25
 try go_wp2_with (first | ((with_reducible refine gate_dst (N := 1) rfl ?_); refine bx_ev 1 #[.slice A0_0 l0_0.length c0_0, .slice A0_1 l0_1.length c0_1, .slice A0_2 l0_2.length c0_2] 26 ?_; intro gb213 hg w5 hbox hb; have BK213 := Aside0.mk (hbox); have GW213 := gw_ hg HB; have GE213 := gw_ hg HB; replace HB := bst_ HB hb; clear hb hbox hg) | ((with_reducible refine gate_dst (N := 2) rfl ?_); refine bx_ev 2 #[.slice none 0 0, .slice none 0 0, .slice none 0 0] 26 ?_; intro gb214 hg w6 hbox hb; have BK214 := Aside0.mk (hbox); have GW214 := gw_ hg HB; have GE214 := gw_ hg HB; have NB213_214 := nl_ hg BK213; have NB214_213 := ng_ hg BK213; replace BK213 := bb_ BK213 hb; replace HB := bst_ HB hb; clear hb hbox hg))
 replace BK213 := bd_ BK213
 replace BK214 := bd_ BK214
 replace HB := Aside0.mk (below_drew1 HB.out)
 refine start_ (n := 14) (S := fun w' => w'.cell? ⟨gb213, 0, none⟩ = some (.slice A0_0 l0_0.length c0_0) ∧ w'.cell? ⟨gb213, 1, none⟩ = some (.slice A0_1 l0_1.length c0_1) ∧ w'.cell? ⟨gb213, 2, none⟩ = some (.slice A0_2 l0_2.length c0_2)) (ds := []) (bs 14 0) (by kernel_rfl) rfl rfl ⟨bc_ BK213 0, bc_ BK213 1, bc_ BK213 2⟩ (fun hHeld => ?_); refine with_tabW spec_l3Own.tab1 spec_l3Own.bits1 (fun HT_ HW_ => ?_)
 generalize w6.drew = w7 at BK213 BK214 HB hHeld ⊢
 refine pu_ 1 4 (bs 14 2) HT_ ?_
 refine pu_ 5 8 (bs 14 34) HT_ ?_
 refine pu_ 9 12 (bs 14 546) HT_ ?_
 refine tk_ 2 5 (bs 14 550) HT_ HW_ hHeld ?_
 refine tk_ 6 9 (bs 14 614) HT_ HW_ hHeld ?_
 refine tk_ 10 13 (bs 14 1638) HT_ HW_ hHeld ?_
 refine join_ (σ := Value × Value × Value × Value × Value) 3 (bs 14 2047) (fun s_ => [(3, s_.1), (6, s_.2.1), (7, s_.2.2.1), (10, s_.2.2.2.1), (11, s_.2.2.2.2)]) (fun s_ w' => (w'.cell? ⟨gb213, 0, none⟩ = some (.slice A0_0 l0_0.length c0_0) ∧ w'.cell? ⟨gb213, 1, none⟩ = some (.slice A0_1 l0_1.length c0_1) ∧ w'.cell? ⟨gb213, 2, none⟩ = some (.slice A0_2 l0_2.length c0_2)) ∧ (Kd.R (Kd.int .i64) 3 w' w.heap.size (fun k_ => no_ s_.2.2.2.1 k_) s_.2.1 y218) ∧ (Kd.R (Kd.int .i64) 3 w' w.heap.size (fun k_ => no_ s_.2.1 k_) s_.2.2.2.1 y224) ∧ (Kd.R k36 36 w' w.heap.size (fun _ => True) s_.2.2.2.2 y227) ∧ (w'.heap[gb213]? = some (.cells #[.slice A0_0 l0_0.length c0_0, .slice A0_1 l0_1.length c0_1, .slice A0_2 l0_2.length c0_2] 26 (0, 0))) ∧ (w'.heap[gb214]? = some (.cells #[.slice none 0 0, .slice none 0 0, .slice none 0 0] 26 (0, 0))) ∧ (Below w.heap.size w w')) ?_ ?_
 rotate_left
 ·intro hJ0_3_4_7_8
  refine join_ (σ := Value × Value × Value × Value) 4 (bs 14 1791) (fun s_ => [(3, s_.1), (6, s_.2.1), (7, s_.2.2.1), (10, s_.2.2.2)]) (fun s_ w' => (w'.cell? ⟨gb213, 0, none⟩ = some (.slice A0_0 l0_0.length c0_0) ∧ w'.cell? ⟨gb213, 1, none⟩ = some (.slice A0_1 l0_1.length c0_1) ∧ w'.cell? ⟨gb213, 2, none⟩ = some (.slice A0_2 l0_2.length c0_2)) ∧ (Kd.R (Kd.int .i64) 3 w' w.heap.size (fun k_ => no_ s_.2.2.2 k_) s_.2.1 y218) ∧ (Kd.R (Kd.int .i64) 3 w' w.heap.size (fun k_ => no_ s_.2.1 k_) s_.2.2.2 y224) ∧ (w'.heap[gb213]? = some (.cells #[.slice A0_0 l0_0.length c0_0, .slice A0_1 l0_1.length c0_1, .slice A0_2 l0_2.length c0_2] 26 (0, 0))) ∧ (w'.heap[gb214]? = some (.cells #[.slice none 0 0, .slice none 0 0, .slice none 0 0] 26 (0, 0))) ∧ (Below w.heap.size w w')) ?_ ?_
  rotate_left
  rotate_left
  ·skip
   rintro ⟨v216, v219, v222, v225⟩ w14 ⟨hS_, h0_, h1_, h2_, h3_, h4_⟩
   try dsimp only at h0_ h1_ h2_ h3_ h4_
   have HO220 := Aside0.mk h0_
   have HO226 := Aside0.mk h1_
   replace BK213 := Aside0.mk h2_
   replace BK214 := Aside0.mk h3_
   replace HB := Aside0.mk h4_
   clear h0_ h1_ h2_ h3_ h4_
   have hHeld : w14.cell? ⟨gb213, 0, none⟩ = some (.slice A0_0 l0_0.length c0_0) ∧ w14.cell? ⟨gb213, 1, none⟩ = some (.slice A0_1 l0_1.length c0_1) ∧ w14.cell? ⟨gb213, 2, none⟩ = some (.slice A0_2 l0_2.length c0_2) := hS_
   refine norm_ (a' := ?_) ?_ ?_
   rotate_left
   ·simp only [putAll, Act.put, List.setIfInBounds_toArray, List.set_cons_zero, List.set_cons_succ]
    rfl
   refine on_ 8 (some 11) (bs 14 2047) HT_ (fun K hK => ?_)
   refine Kd.R_lit_step k36 _ 36 ?hg (N := 11) ?hd (xs := ([] : List (S36))) (inner := []) (ok := fun _ => True) (okp := fun _ => True) ?hr ?hp (fun _ hk => hk) trivial (Below.refl _ _) (Nat.le_refl _) (by simp) ?_; (case hd => rfl); (case hg => rfl); (case hr => first | (go_simp; done) | (go_simp; rfl)); (case hp => exact (Reps.none _ _))
   intro v228 w15 ho16 hb hg_ hnew_
   clear hg_ hnew_
   (first | rw [← Ny227.out] at ho16 | (simp only [Int.reduceToNat] at ho16; rw [← Ny227.out] at ho16))
   have HO229 := Aside0.mk (Kd.R_lower ho16 (below_size (hB HB)))
   replace HO220 := rb_ HO220 hb
   replace HO226 := rb_ HO226 hb
   replace BK213 := bb_ BK213 hb
   replace BK214 := bb_ BK214 hb
   replace HB := bst_ HB hb
   clear hb ho16
   refine hK.out _ _ ⟨bc_ BK213 0, bc_ BK213 1, bc_ BK213 2⟩ (fun hHeld => ?_)
   clear hK K
   refine nm_ 11 ?_
   exact norm_ (by first | (simp only [putAll, Act.put, List.setIfInBounds_toArray, List.set_cons_zero, List.set_cons_succ]; done) | (simp only [putAll, Act.put, List.setIfInBounds_toArray, List.set_cons_zero, List.set_cons_succ]; rfl)) (hJ0_3_4_7_8 (v216, v219, v222, v225, v228) _ ⟨hHeld, (ra HO220.out), (ra HO226.out), (ra HO229.out), (ba BK213.out), (ba BK214.out), (hB HB)⟩)
  intro hJ0_3_4_7
  refine join_ (σ := Value × Value × Value × Value) 4 (bs 14 1919) (fun s_ => [(3, s_.1), (6, s_.2.1), (7, s_.2.2.1), (11, s_.2.2.2)]) (fun s_ w' => (w'.cell? ⟨gb213, 0, none⟩ = some (.slice A0_0 l0_0.length c0_0) ∧ w'.cell? ⟨gb213, 1, none⟩ = some (.slice A0_1 l0_1.length c0_1) ∧ w'.cell? ⟨gb213, 2, none⟩ = some (.slice A0_2 l0_2.length c0_2)) ∧ (Kd.R (Kd.int .i64) 3 w' w.heap.size (fun k_ => no_ s_.2.2.1 k_) s_.2.1 y218) ∧ (Kd.R (Kd.int .i64) 3 w' w.heap.size (fun k_ => no_ s_.2.1 k_) s_.2.2.1 y221) ∧ (Kd.R k36 36 w' w.heap.size (fun _ => True) s_.2.2.2 y227) ∧ (w'.heap[gb213]? = some (.cells #[.slice A0_0 l0_0.length c0_0, .slice A0_1 l0_1.length c0_1, .slice A0_2 l0_2.length c0_2] 26 (0, 0))) ∧ (w'.heap[gb214]? = some (.cells #[.slice none 0 0, .slice none 0 0, .slice none 0 0] 26 (0, 0))) ∧ (Below w.heap.size w w')) ?_ ?_
  rotate_left
  rotate_left
  ·skip
   rintro ⟨v216, v219, v222, v228⟩ w15 ⟨hS_, h0_, h1_, h2_, h3_, h4_, h5_⟩
   try dsimp only at h0_ h1_ h2_ h3_ h4_ h5_
   have HO220 := Aside0.mk h0_
   have HO223 := Aside0.mk h1_
   have HO229 := Aside0.mk h2_
   replace BK213 := Aside0.mk h3_
   replace BK214 := Aside0.mk h4_
   replace HB := Aside0.mk h5_
   clear h0_ h1_ h2_ h3_ h4_ h5_
   have hHeld : w15.cell? ⟨gb213, 0, none⟩ = some (.slice A0_0 l0_0.length c0_0) ∧ w15.cell? ⟨gb213, 1, none⟩ = some (.slice A0_1 l0_1.length c0_1) ∧ w15.cell? ⟨gb213, 2, none⟩ = some (.slice A0_2 l0_2.length c0_2) := hS_
   refine norm_ (a' := ?_) ?_ ?_
   rotate_left
   ·simp only [putAll, Act.put, List.setIfInBounds_toArray, List.set_cons_zero, List.set_cons_succ]
    rfl
   refine on_ 7 (some 10) (bs 14 2047) HT_ (fun K hK => ?_)
   refine Kd.R_append_rows_step (Kd.int .i64) (w0 := w) w.heap.size (by rfl) (.tmp 7) (.tmp 9) 23 3 (.int .i64 0) 8 rfl Try.underlying23 info3 rfl (by decide) (by omega) v222 y221 l0_1 _ _ _ (fun k_ => no_ v219 k_) (fun _ => False) rfl rfl ?aO ?aR (fun _ _ h => h) (fun _ h => h.elim) ?aF ?aB ?aS ?aL ?_
   (case aR => exact cb_ HR0_1 HB)
   (case aB => exact (hB HB))
   (case aF => exact (fun k_ hk => Kd.fresh' (rl_ HO220) k_ hk))
   (case aO => exact (ra HO223.out))
   (case aS => exact (below_size (hB HB)))
   (case aL => have := LMc3.out; omega)
   intro v225 w16 ho hb hg hat
   rw [← Ny224.out] at ho
   have HO226 := Aside0.mk (ho)
   replace BK213 := Aside0.mk (blk_grown (g := gb213) (o := .cells #[.slice A0_0 l0_0.length c0_0, .slice A0_1 l0_1.length c0_1, .slice A0_2 l0_2.length c0_2] 26 (0, 0)) (ba BK213.out) hg (Kd.R_ne HO223.out BK213.out (by decide)))
   replace BK214 := Aside0.mk (blk_grown (g := gb214) (o := .cells #[.slice none 0 0, .slice none 0 0, .slice none 0 0] 26 (0, 0)) (ba BK214.out) hg (Kd.R_ne HO223.out BK214.out (by decide)))
   replace HO220 := Aside0.mk (Kd.R_after (ok := (fun _ => True)) (rm_ HO220 (fun _ hk => ⟨trivial, hk⟩)).out hg hat)
   replace HO229 := Aside0.mk (Kd.R_over' (ra HO229.out) (Kd.R_typed (ra HO223.out)) (by decide) hg)
   replace HB := Aside0.mk (hb)
   clear HO223
   clear ho hb hg hat
   refine hK.out _ _ ⟨bc_ BK213 0, bc_ BK213 1, bc_ BK213 2⟩ (fun hHeld => ?_)
   clear hK K
   refine nm_ 10 ?_
   exact norm_ (by first | (simp only [putAll, Act.put, List.setIfInBounds_toArray, List.set_cons_zero, List.set_cons_succ]; done) | (simp only [putAll, Act.put, List.setIfInBounds_toArray, List.set_cons_zero, List.set_cons_succ]; rfl)) (hJ0_3_4_7_8 (v216, v219, v222, v225, v228) _ ⟨hHeld, (rm_ HO220 (fun _ hk => hk.2)).out, (ra HO226.out), (ra HO229.out), (ba BK213.out), (ba BK214.out), (hB HB)⟩)
  intro hJ0_3_4_8
  refine join_ (σ := Value × Value × Value) 5 (bs 14 1663) (fun s_ => [(3, s_.1), (6, s_.2.1), (7, s_.2.2)]) (fun s_ w' => (w'.cell? ⟨gb213, 0, none⟩ = some (.slice A0_0 l0_0.length c0_0) ∧ w'.cell? ⟨gb213, 1, none⟩ = some (.slice A0_1 l0_1.length c0_1) ∧ w'.cell? ⟨gb213, 2, none⟩ = some (.slice A0_2 l0_2.length c0_2)) ∧ (Kd.R (Kd.int .i64) 3 w' w.heap.size (fun k_ => no_ s_.2.2 k_) s_.2.1 y218) ∧ (Kd.R (Kd.int .i64) 3 w' w.heap.size (fun k_ => no_ s_.2.1 k_) s_.2.2 y221) ∧ (w'.heap[gb213]? = some (.cells #[.slice A0_0 l0_0.length c0_0, .slice A0_1 l0_1.length c0_1, .slice A0_2 l0_2.length c0_2] 26 (0, 0))) ∧ (w'.heap[gb214]? = some (.cells #[.slice none 0 0, .slice none 0 0, .slice none 0 0] 26 (0, 0))) ∧ (Below w.heap.size w w')) ?_ ?_
  rotate_left
  rotate_left
  ·skip
   rintro ⟨v216, v219, v222⟩ w13 ⟨hS_, h0_, h1_, h2_, h3_, h4_⟩
   try dsimp only at h0_ h1_ h2_ h3_ h4_
   have HO220 := Aside0.mk h0_
   have HO223 := Aside0.mk h1_
   replace BK213 := Aside0.mk h2_
   replace BK214 := Aside0.mk h3_
   replace HB := Aside0.mk h4_
   clear h0_ h1_ h2_ h3_ h4_
   have hHeld : w13.cell? ⟨gb213, 0, none⟩ = some (.slice A0_0 l0_0.length c0_0) ∧ w13.cell? ⟨gb213, 1, none⟩ = some (.slice A0_1 l0_1.length c0_1) ∧ w13.cell? ⟨gb213, 2, none⟩ = some (.slice A0_2 l0_2.length c0_2) := hS_
   refine norm_ (a' := ?_) ?_ ?_
   rotate_left
   ·simp only [putAll, Act.put, List.setIfInBounds_toArray, List.set_cons_zero, List.set_cons_succ]
    rfl
   refine two_ (i := 7) (j := 8) (Ni := some 10) (Nj := some 11) (bs 14 1791) (bs 14 1919) rfl rfl rfl rfl (two_of HT_.out (by kernel_rfl)) (by decide) (by decide) (fun K hK => ?_) (fun K hK => ?_)
   rotate_left
   ·skip
    refine Kd.R_lit_step k36 _ 36 ?hg (N := 11) ?hd (xs := ([] : List (S36))) (inner := []) (ok := fun _ => True) (okp := fun _ => True) ?hr ?hp (fun _ hk => hk) trivial (Below.refl _ _) (Nat.le_refl _) (by simp) ?_; (case hd => rfl); (case hg => rfl); (case hr => first | (go_simp; done) | (go_simp; rfl)); (case hp => exact (Reps.none _ _))
    intro v228 w14 ho15 hb hg_ hnew_
    clear hg_ hnew_
    (first | rw [← Ny227.out] at ho15 | (simp only [Int.reduceToNat] at ho15; rw [← Ny227.out] at ho15))
    have HO229 := Aside0.mk (Kd.R_lower ho15 (below_size (hB HB)))
    replace HO220 := rb_ HO220 hb
    replace HO223 := rb_ HO223 hb
    replace BK213 := bb_ BK213 hb
    replace BK214 := bb_ BK214 hb
    replace HB := bst_ HB hb
    clear hb ho15
    refine hK.out _ _ ⟨bc_ BK213 0, bc_ BK213 1, bc_ BK213 2⟩ (fun hHeld => ?_)
    clear hK K
    refine nm_ 11 ?_
    exact norm_ (by first | (simp only [putAll, Act.put, List.setIfInBounds_toArray, List.set_cons_zero, List.set_cons_succ]; done) | (simp only [putAll, Act.put, List.setIfInBounds_toArray, List.set_cons_zero, List.set_cons_succ]; rfl)) (hJ0_3_4_8 (v216, v219, v222, v228) _ ⟨hHeld, (ra HO220.out), (ra HO223.out), (ra HO229.out), (ba BK213.out), (ba BK214.out), (hB HB)⟩)
   skip
   refine Kd.R_append_rows_step (Kd.int .i64) (w0 := w) w.heap.size (by rfl) (.tmp 7) (.tmp 9) 23 3 (.int .i64 0) 8 rfl Try.underlying23 info3 rfl (by decide) (by omega) v222 y221 l0_1 _ _ _ (fun k_ => no_ v219 k_) (fun _ => False) rfl rfl ?aO ?aR (fun _ _ h => h) (fun _ h => h.elim) ?aF ?aB ?aS ?aL ?_
   (case aR => exact cb_ HR0_1 HB)
   (case aB => exact (hB HB))
   (case aF => exact (fun k_ hk => Kd.fresh' (rl_ HO220) k_ hk))
   (case aO => exact (ra HO223.out))
   (case aS => exact (below_size (hB HB)))
   (case aL => have := LMc3.out; omega)
   intro v225 w14 ho hb hg hat
   rw [← Ny224.out] at ho
   have HO226 := Aside0.mk (ho)
   replace BK213 := Aside0.mk (blk_grown (g := gb213) (o := .cells #[.slice A0_0 l0_0.length c0_0, .slice A0_1 l0_1.length c0_1, .slice A0_2 l0_2.length c0_2] 26 (0, 0)) (ba BK213.out) hg (Kd.R_ne HO223.out BK213.out (by decide)))
   replace BK214 := Aside0.mk (blk_grown (g := gb214) (o := .cells #[.slice none 0 0, .slice none 0 0, .slice none 0 0] 26 (0, 0)) (ba BK214.out) hg (Kd.R_ne HO223.out BK214.out (by decide)))
   replace HO220 := Aside0.mk (Kd.R_after (ok := (fun _ => True)) (rm_ HO220 (fun _ hk => ⟨trivial, hk⟩)).out hg hat)
   replace HB := Aside0.mk (hb)
   clear HO223
   clear ho hb hg hat
   refine hK.out _ _ ⟨bc_ BK213 0, bc_ BK213 1, bc_ BK213 2⟩ (fun hHeld => ?_)
   clear hK K
   refine nm_ 10 ?_
   exact norm_ (by first | (simp only [putAll, Act.put, List.setIfInBounds_toArray, List.set_cons_zero, List.set_cons_succ]; done) | (simp only [putAll, Act.put, List.setIfInBounds_toArray, List.set_cons_zero, List.set_cons_succ]; rfl)) (hJ0_3_4_7 (v216, v219, v222, v225) _ ⟨hHeld, (rm_ HO220 (fun _ hk => hk.2)).out, (ra HO226.out), (ba BK213.out), (ba BK214.out), (hB HB)⟩)
  intro hJ0_3_4
  refine join_ (σ := Value × Value × Value) 5 (bs 14 1903) (fun s_ => [(3, s_.1), (6, s_.2.1), (11, s_.2.2)]) (fun s_ w' => (w'.cell? ⟨gb213, 0, none⟩ = some (.slice A0_0 l0_0.length c0_0) ∧ w'.cell? ⟨gb213, 1, none⟩ = some (.slice A0_1 l0_1.length c0_1) ∧ w'.cell? ⟨gb213, 2, none⟩ = some (.slice A0_2 l0_2.length c0_2)) ∧ (Kd.R (Kd.int .i64) 3 w' w.heap.size (fun _ => True) s_.2.1 y218) ∧ (Kd.R k36 36 w' w.heap.size (fun _ => True) s_.2.2 y227) ∧ (w'.heap[gb213]? = some (.cells #[.slice A0_0 l0_0.length c0_0, .slice A0_1 l0_1.length c0_1, .slice A0_2 l0_2.length c0_2] 26 (0, 0))) ∧ (w'.heap[gb214]? = some (.cells #[.slice none 0 0, .slice none 0 0, .slice none 0 0] 26 (0, 0))) ∧ (Below w.heap.size w w')) ?_ ?_
  rotate_left
  rotate_left
  ·skip
   rintro ⟨v216, v219, v228⟩ w13 ⟨hS_, h0_, h1_, h2_, h3_, h4_⟩
   try dsimp only at h0_ h1_ h2_ h3_ h4_
   have HO220 := Aside0.mk h0_
   have HO229 := Aside0.mk h1_
   replace BK213 := Aside0.mk h2_
   replace BK214 := Aside0.mk h3_
   replace HB := Aside0.mk h4_
   clear h0_ h1_ h2_ h3_ h4_
   have hHeld : w13.cell? ⟨gb213, 0, none⟩ = some (.slice A0_0 l0_0.length c0_0) ∧ w13.cell? ⟨gb213, 1, none⟩ = some (.slice A0_1 l0_1.length c0_1) ∧ w13.cell? ⟨gb213, 2, none⟩ = some (.slice A0_2 l0_2.length c0_2) := hS_
   refine norm_ (a' := ?_) ?_ ?_
   rotate_left
   ·simp only [putAll, Act.put, List.setIfInBounds_toArray, List.set_cons_zero, List.set_cons_succ]
    rfl
   refine on_ 4 (some 7) (bs 14 1919) HT_ (fun K hK => ?_)
   refine Kd.R_lit_step (Kd.int .i64) _ 3 ?hg (N := 7) ?hd (xs := ([] : List Int)) (inner := []) (ok := fun _ => True) (okp := fun _ => True) ?hr ?hp (fun _ hk => hk) trivial (Below.refl _ _) (Nat.le_refl _) (by simp) ?_; (case hd => rfl); (case hg => rfl); (case hr => first | (go_simp; done) | (go_simp; rfl)); (case hp => exact (Reps.none _ _))
   intro v222 w14 ho15 hb hg_ hnew_
   clear hg_ hnew_
   (first | rw [← Ny221.out] at ho15 | (simp only [Int.reduceToNat] at ho15; rw [← Ny221.out] at ho15))
   have HO223 := Aside0.mk (Kd.R_lower (Kd.R_new' ho15 (rl_ HO220)) (below_size (hB HB)))
   replace HO220 := re_ HO220 ho15 hb
   replace HO229 := rb_ HO229 hb
   replace BK213 := bb_ BK213 hb
   replace BK214 := bb_ BK214 hb
   replace HB := bst_ HB hb
   clear hb ho15
   refine hK.out _ _ ⟨bc_ BK213 0, bc_ BK213 1, bc_ BK213 2⟩ (fun hHeld => ?_)
   clear hK K
   refine nm_ 7 ?_
   exact norm_ (by first | (simp only [putAll, Act.put, List.setIfInBounds_toArray, List.set_cons_zero, List.set_cons_succ]; done) | (simp only [putAll, Act.put, List.setIfInBounds_toArray, List.set_cons_zero, List.set_cons_succ]; rfl)) (hJ0_3_4_8 (v216, v219, v222, v228) _ ⟨hHeld, (rm_ HO220 (fun _ hk => hk.2)).out, (rm_ HO223 (fun _ hk => hk.2)).out, (ra HO229.out), (ba BK213.out), (ba BK214.out), (hB HB)⟩)
  intro hJ0_3_8
  refine join_ (σ := Value × Value × Value) 5 (bs 14 1911) (fun s_ => [(3, s_.1), (7, s_.2.1), (11, s_.2.2)]) (fun s_ w' => (w'.cell? ⟨gb213, 0, none⟩ = some (.slice A0_0 l0_0.length c0_0) ∧ w'.cell? ⟨gb213, 1, none⟩ = some (.slice A0_1 l0_1.length c0_1) ∧ w'.cell? ⟨gb213, 2, none⟩ = some (.slice A0_2 l0_2.length c0_2)) ∧ (Kd.R (Kd.int .i64) 3 w' w.heap.size (fun k_ => no_ s_.2.1 k_) s_.1 y215) ∧ (Kd.R (Kd.int .i64) 3 w' w.heap.size (fun k_ => no_ s_.1 k_) s_.2.1 y221) ∧ (Kd.R k36 36 w' w.heap.size (fun _ => True) s_.2.2 y227) ∧ (w'.heap[gb213]? = some (.cells #[.slice A0_0 l0_0.length c0_0, .slice A0_1 l0_1.length c0_1, .slice A0_2 l0_2.length c0_2] 26 (0, 0))) ∧ (w'.heap[gb214]? = some (.cells #[.slice none 0 0, .slice none 0 0, .slice none 0 0] 26 (0, 0))) ∧ (Below w.heap.size w w')) ?_ ?_
  rotate_left
  rotate_left
  ·skip
   rintro ⟨v216, v222, v228⟩ w14 ⟨hS_, h0_, h1_, h2_, h3_, h4_, h5_⟩
   try dsimp only at h0_ h1_ h2_ h3_ h4_ h5_
   have HO217 := Aside0.mk h0_
   have HO223 := Aside0.mk h1_
   have HO229 := Aside0.mk h2_
   replace BK213 := Aside0.mk h3_
   replace BK214 := Aside0.mk h4_
   replace HB := Aside0.mk h5_
   clear h0_ h1_ h2_ h3_ h4_ h5_
   have hHeld : w14.cell? ⟨gb213, 0, none⟩ = some (.slice A0_0 l0_0.length c0_0) ∧ w14.cell? ⟨gb213, 1, none⟩ = some (.slice A0_1 l0_1.length c0_1) ∧ w14.cell? ⟨gb213, 2, none⟩ = some (.slice A0_2 l0_2.length c0_2) := hS_
   refine norm_ (a' := ?_) ?_ ?_
   rotate_left
   ·simp only [putAll, Act.put, List.setIfInBounds_toArray, List.set_cons_zero, List.set_cons_succ]
    rfl
   refine on_ 3 (some 6) (bs 14 1919) HT_ (fun K hK => ?_)
   refine Kd.R_append_rows_step (Kd.int .i64) (w0 := w) w.heap.size (by rfl) (.tmp 3) (.tmp 5) 23 3 (.int .i64 0) 8 rfl Try.underlying23 info3 rfl (by decide) (by omega) v216 y215 l0_0 _ _ _ (fun k_ => no_ v222 k_) (fun _ => False) rfl rfl ?aO ?aR (fun _ _ h => h) (fun _ h => h.elim) ?aF ?aB ?aS ?aL ?_
   (case aR => exact cb_ HR0_0 HB)
   (case aB => exact (hB HB))
   (case aF => exact (fun k_ hk => Kd.fresh' (rl_ HO223) k_ hk))
   (case aO => exact (ra HO217.out))
   (case aS => exact (below_size (hB HB)))
   (case aL => have := LMc2.out; omega)
   intro v219 w15 ho hb hg hat
   rw [← Ny218.out] at ho
   have HO220 := Aside0.mk (ho)
   replace BK213 := Aside0.mk (blk_grown (g := gb213) (o := .cells #[.slice A0_0 l0_0.length c0_0, .slice A0_1 l0_1.length c0_1, .slice A0_2 l0_2.length c0_2] 26 (0, 0)) (ba BK213.out) hg (Kd.R_ne HO217.out BK213.out (by decide)))
   replace BK214 := Aside0.mk (blk_grown (g := gb214) (o := .cells #[.slice none 0 0, .slice none 0 0, .slice none 0 0] 26 (0, 0)) (ba BK214.out) hg (Kd.R_ne HO217.out BK214.out (by decide)))
   replace HO223 := Aside0.mk (Kd.R_after (ok := (fun _ => True)) (rm_ HO223 (fun _ hk => ⟨trivial, hk⟩)).out hg hat)
   replace HO229 := Aside0.mk (Kd.R_over' (ra HO229.out) (Kd.R_typed (ra HO217.out)) (by decide) hg)
   replace HB := Aside0.mk (hb)
   clear HO217
   clear ho hb hg hat
   refine hK.out _ _ ⟨bc_ BK213 0, bc_ BK213 1, bc_ BK213 2⟩ (fun hHeld => ?_)
   clear hK K
   refine nm_ 6 ?_
   exact norm_ (by first | (simp only [putAll, Act.put, List.setIfInBounds_toArray, List.set_cons_zero, List.set_cons_succ]; done) | (simp only [putAll, Act.put, List.setIfInBounds_toArray, List.set_cons_zero, List.set_cons_succ]; rfl)) (hJ0_3_4_8 (v216, v219, v222, v228) _ ⟨hHeld, (ra HO220.out), (rm_ HO223 (fun _ hk => hk.2)).out, (ra HO229.out), (ba BK213.out), (ba BK214.out), (hB HB)⟩)
  intro hJ0_4_8
  refine join_ (σ := Value × Value) 6 (bs 14 1647) (fun s_ => [(3, s_.1), (6, s_.2)]) (fun s_ w' => (w'.cell? ⟨gb213, 0, none⟩ = some (.slice A0_0 l0_0.length c0_0) ∧ w'.cell? ⟨gb213, 1, none⟩ = some (.slice A0_1 l0_1.length c0_1) ∧ w'.cell? ⟨gb213, 2, none⟩ = some (.slice A0_2 l0_2.length c0_2)) ∧ (Kd.R (Kd.int .i64) 3 w' w.heap.size (fun _ => True) s_.2 y218) ∧ (w'.heap[gb213]? = some (.cells #[.slice A0_0 l0_0.length c0_0, .slice A0_1 l0_1.length c0_1, .slice A0_2 l0_2.length c0_2] 26 (0, 0))) ∧ (w'.heap[gb214]? = some (.cells #[.slice none 0 0, .slice none 0 0, .slice none 0 0] 26 (0, 0))) ∧ (Below w.heap.size w w')) ?_ ?_
  rotate_left
  rotate_left
  ·skip
   rintro ⟨v216, v219⟩ w11 ⟨hS_, h0_, h1_, h2_, h3_⟩
   try dsimp only at h0_ h1_ h2_ h3_
   have HO220 := Aside0.mk h0_
   replace BK213 := Aside0.mk h1_
   replace BK214 := Aside0.mk h2_
   replace HB := Aside0.mk h3_
   clear h0_ h1_ h2_ h3_
   have hHeld : w11.cell? ⟨gb213, 0, none⟩ = some (.slice A0_0 l0_0.length c0_0) ∧ w11.cell? ⟨gb213, 1, none⟩ = some (.slice A0_1 l0_1.length c0_1) ∧ w11.cell? ⟨gb213, 2, none⟩ = some (.slice A0_2 l0_2.length c0_2) := hS_
   refine norm_ (a' := ?_) ?_ ?_
   rotate_left
   ·simp only [putAll, Act.put, List.setIfInBounds_toArray, List.set_cons_zero, List.set_cons_succ]
    rfl
   refine two_ (i := 4) (j := 8) (Ni := some 7) (Nj := some 11) (bs 14 1663) (bs 14 1903) rfl rfl rfl rfl (two_of HT_.out (by kernel_rfl)) (by decide) (by decide) (fun K hK => ?_) (fun K hK => ?_)
   rotate_left
   ·skip
    refine Kd.R_lit_step k36 _ 36 ?hg (N := 11) ?hd (xs := ([] : List (S36))) (inner := []) (ok := fun _ => True) (okp := fun _ => True) ?hr ?hp (fun _ hk => hk) trivial (Below.refl _ _) (Nat.le_refl _) (by simp) ?_; (case hd => rfl); (case hg => rfl); (case hr => first | (go_simp; done) | (go_simp; rfl)); (case hp => exact (Reps.none _ _))
    intro v228 w12 ho13 hb hg_ hnew_
    clear hg_ hnew_
    (first | rw [← Ny227.out] at ho13 | (simp only [Int.reduceToNat] at ho13; rw [← Ny227.out] at ho13))
    have HO229 := Aside0.mk (Kd.R_lower ho13 (below_size (hB HB)))
    replace HO220 := rb_ HO220 hb
    replace BK213 := bb_ BK213 hb
    replace BK214 := bb_ BK214 hb
    replace HB := bst_ HB hb
    clear hb ho13
    refine hK.out _ _ ⟨bc_ BK213 0, bc_ BK213 1, bc_ BK213 2⟩ (fun hHeld => ?_)
    clear hK K
    refine nm_ 11 ?_
    exact norm_ (by first | (simp only [putAll, Act.put, List.setIfInBounds_toArray, List.set_cons_zero, List.set_cons_succ]; done) | (simp only [putAll, Act.put, List.setIfInBounds_toArray, List.set_cons_zero, List.set_cons_succ]; rfl)) (hJ0_3_8 (v216, v219, v228) _ ⟨hHeld, (ra HO220.out), (ra HO229.out), (ba BK213.out), (ba BK214.out), (hB HB)⟩)
   skip
   refine Kd.R_lit_step (Kd.int .i64) _ 3 ?hg (N := 7) ?hd (xs := ([] : List Int)) (inner := []) (ok := fun _ => True) (okp := fun _ => True) ?hr ?hp (fun _ hk => hk) trivial (Below.refl _ _) (Nat.le_refl _) (by simp) ?_; (case hd => rfl); (case hg => rfl); (case hr => first | (go_simp; done) | (go_simp; rfl)); (case hp => exact (Reps.none _ _))
   intro v222 w12 ho13 hb hg_ hnew_
   clear hg_ hnew_
   (first | rw [← Ny221.out] at ho13 | (simp only [Int.reduceToNat] at ho13; rw [← Ny221.out] at ho13))
   have HO223 := Aside0.mk (Kd.R_lower (Kd.R_new' ho13 (rl_ HO220)) (below_size (hB HB)))
   replace HO220 := re_ HO220 ho13 hb
   replace BK213 := bb_ BK213 hb
   replace BK214 := bb_ BK214 hb
   replace HB := bst_ HB hb
   clear hb ho13
   refine hK.out _ _ ⟨bc_ BK213 0, bc_ BK213 1, bc_ BK213 2⟩ (fun hHeld => ?_)
   clear hK K
   refine nm_ 7 ?_
   exact norm_ (by first | (simp only [putAll, Act.put, List.setIfInBounds_toArray, List.set_cons_zero, List.set_cons_succ]; done) | (simp only [putAll, Act.put, List.setIfInBounds_toArray, List.set_cons_zero, List.set_cons_succ]; rfl)) (hJ0_3_4 (v216, v219, v222) _ ⟨hHeld, (rm_ HO220 (fun _ hk => hk.2)).out, (rm_ HO223 (fun _ hk => hk.2)).out, (ba BK213.out), (ba BK214.out), (hB HB)⟩)
  intro hJ0_3
  refine join_ (σ := Value × Value) 6 (bs 14 1655) (fun s_ => [(3, s_.1), (7, s_.2)]) (fun s_ w' => (w'.cell? ⟨gb213, 0, none⟩ = some (.slice A0_0 l0_0.length c0_0) ∧ w'.cell? ⟨gb213, 1, none⟩ = some (.slice A0_1 l0_1.length c0_1) ∧ w'.cell? ⟨gb213, 2, none⟩ = some (.slice A0_2 l0_2.length c0_2)) ∧ (Kd.R (Kd.int .i64) 3 w' w.heap.size (fun k_ => no_ s_.2 k_) s_.1 y215) ∧ (Kd.R (Kd.int .i64) 3 w' w.heap.size (fun k_ => no_ s_.1 k_) s_.2 y221) ∧ (w'.heap[gb213]? = some (.cells #[.slice A0_0 l0_0.length c0_0, .slice A0_1 l0_1.length c0_1, .slice A0_2 l0_2.length c0_2] 26 (0, 0))) ∧ (w'.heap[gb214]? = some (.cells #[.slice none 0 0, .slice none 0 0, .slice none 0 0] 26 (0, 0))) ∧ (Below w.heap.size w w')) ?_ ?_
  rotate_left
  rotate_left
  ·skip
   rintro ⟨v216, v222⟩ w12 ⟨hS_, h0_, h1_, h2_, h3_, h4_⟩
   try dsimp only at h0_ h1_ h2_ h3_ h4_
   have HO217 := Aside0.mk h0_
   have HO223 := Aside0.mk h1_
   replace BK213 := Aside0.mk h2_
   replace BK214 := Aside0.mk h3_
   replace HB := Aside0.mk h4_
   clear h0_ h1_ h2_ h3_ h4_
   have hHeld : w12.cell? ⟨gb213, 0, none⟩ = some (.slice A0_0 l0_0.length c0_0) ∧ w12.cell? ⟨gb213, 1, none⟩ = some (.slice A0_1 l0_1.length c0_1) ∧ w12.cell? ⟨gb213, 2, none⟩ = some (.slice A0_2 l0_2.length c0_2) := hS_
   refine norm_ (a' := ?_) ?_ ?_
   rotate_left
   ·simp only [putAll, Act.put, List.setIfInBounds_toArray, List.set_cons_zero, List.set_cons_succ]
    rfl
   refine two_ (i := 3) (j := 8) (Ni := some 6) (Nj := some 11) (bs 14 1663) (bs 14 1911) rfl rfl rfl rfl (two_of HT_.out (by kernel_rfl)) (by decide) (by decide) (fun K hK => ?_) (fun K hK => ?_)
   rotate_left
   ·skip
    refine Kd.R_lit_step k36 _ 36 ?hg (N := 11) ?hd (xs := ([] : List (S36))) (inner := []) (ok := fun _ => True) (okp := fun _ => True) ?hr ?hp (fun _ hk => hk) trivial (Below.refl _ _) (Nat.le_refl _) (by simp) ?_; (case hd => rfl); (case hg => rfl); (case hr => first | (go_simp; done) | (go_simp; rfl)); (case hp => exact (Reps.none _ _))
    intro v228 w13 ho14 hb hg_ hnew_
    clear hg_ hnew_
    (first | rw [← Ny227.out] at ho14 | (simp only [Int.reduceToNat] at ho14; rw [← Ny227.out] at ho14))
    have HO229 := Aside0.mk (Kd.R_lower ho14 (below_size (hB HB)))
    replace HO217 := rb_ HO217 hb
    replace HO223 := rb_ HO223 hb
    replace BK213 := bb_ BK213 hb
    replace BK214 := bb_ BK214 hb
    replace HB := bst_ HB hb
    clear hb ho14
    refine hK.out _ _ ⟨bc_ BK213 0, bc_ BK213 1, bc_ BK213 2⟩ (fun hHeld => ?_)
    clear hK K
    refine nm_ 11 ?_
    exact norm_ (by first | (simp only [putAll, Act.put, List.setIfInBounds_toArray, List.set_cons_zero, List.set_cons_succ]; done) | (simp only [putAll, Act.put, List.setIfInBounds_toArray, List.set_cons_zero, List.set_cons_succ]; rfl)) (hJ0_4_8 (v216, v222, v228) _ ⟨hHeld, (ra HO217.out), (ra HO223.out), (ra HO229.out), (ba BK213.out), (ba BK214.out), (hB HB)⟩)
   skip
   refine Kd.R_append_rows_step (Kd.int .i64) (w0 := w) w.heap.size (by rfl) (.tmp 3) (.tmp 5) 23 3 (.int .i64 0) 8 rfl Try.underlying23 info3 rfl (by decide) (by omega) v216 y215 l0_0 _ _ _ (fun k_ => no_ v222 k_) (fun _ => False) rfl rfl ?aO ?aR (fun _ _ h => h) (fun _ h => h.elim) ?aF ?aB ?aS ?aL ?_
   (case aR => exact cb_ HR0_0 HB)
   (case aB => exact (hB HB))
   (case aF => exact (fun k_ hk => Kd.fresh' (rl_ HO223) k_ hk))
   (case aO => exact (ra HO217.out))
   (case aS => exact (below_size (hB HB)))
   (case aL => have := LMc2.out; omega)
   intro v219 w13 ho hb hg hat
   rw [← Ny218.out] at ho
   have HO220 := Aside0.mk (ho)
   replace BK213 := Aside0.mk (blk_grown (g := gb213) (o := .cells #[.slice A0_0 l0_0.length c0_0, .slice A0_1 l0_1.length c0_1, .slice A0_2 l0_2.length c0_2] 26 (0, 0)) (ba BK213.out) hg (Kd.R_ne HO217.out BK213.out (by decide)))
   replace BK214 := Aside0.mk (blk_grown (g := gb214) (o := .cells #[.slice none 0 0, .slice none 0 0, .slice none 0 0] 26 (0, 0)) (ba BK214.out) hg (Kd.R_ne HO217.out BK214.out (by decide)))
   replace HO223 := Aside0.mk (Kd.R_after (ok := (fun _ => True)) (rm_ HO223 (fun _ hk => ⟨trivial, hk⟩)).out hg hat)
   replace HB := Aside0.mk (hb)
   clear HO217
   clear ho hb hg hat
   refine hK.out _ _ ⟨bc_ BK213 0, bc_ BK213 1, bc_ BK213 2⟩ (fun hHeld => ?_)
   clear hK K
   refine nm_ 6 ?_
   exact norm_ (by first | (simp only [putAll, Act.put, List.setIfInBounds_toArray, List.set_cons_zero, List.set_cons_succ]; done) | (simp only [putAll, Act.put, List.setIfInBounds_toArray, List.set_cons_zero, List.set_cons_succ]; rfl)) (hJ0_3_4 (v216, v219, v222) _ ⟨hHeld, (ra HO220.out), (rm_ HO223 (fun _ hk => hk.2)).out, (ba BK213.out), (ba BK214.out), (hB HB)⟩)
  intro hJ0_4
  refine join_ (σ := Value × Value) 6 (bs 14 1895) (fun s_ => [(3, s_.1), (11, s_.2)]) (fun s_ w' => (w'.cell? ⟨gb213, 0, none⟩ = some (.slice A0_0 l0_0.length c0_0) ∧ w'.cell? ⟨gb213, 1, none⟩ = some (.slice A0_1 l0_1.length c0_1) ∧ w'.cell? ⟨gb213, 2, none⟩ = some (.slice A0_2 l0_2.length c0_2)) ∧ (Kd.R (Kd.int .i64) 3 w' w.heap.size (fun _ => True) s_.1 y215) ∧ (Kd.R k36 36 w' w.heap.size (fun _ => True) s_.2 y227) ∧ (w'.heap[gb213]? = some (.cells #[.slice A0_0 l0_0.length c0_0, .slice A0_1 l0_1.length c0_1, .slice A0_2 l0_2.length c0_2] 26 (0, 0))) ∧ (w'.heap[gb214]? = some (.cells #[.slice none 0 0, .slice none 0 0, .slice none 0 0] 26 (0, 0))) ∧ (Below w.heap.size w w')) ?_ ?_
  rotate_left
  rotate_left
  ·skip
   rintro ⟨v216, v228⟩ w12 ⟨hS_, h0_, h1_, h2_, h3_, h4_⟩
   try dsimp only at h0_ h1_ h2_ h3_ h4_
   have HO217 := Aside0.mk h0_
   have HO229 := Aside0.mk h1_
   replace BK213 := Aside0.mk h2_
   replace BK214 := Aside0.mk h3_
   replace HB := Aside0.mk h4_
   clear h0_ h1_ h2_ h3_ h4_
   have hHeld : w12.cell? ⟨gb213, 0, none⟩ = some (.slice A0_0 l0_0.length c0_0) ∧ w12.cell? ⟨gb213, 1, none⟩ = some (.slice A0_1 l0_1.length c0_1) ∧ w12.cell? ⟨gb213, 2, none⟩ = some (.slice A0_2 l0_2.length c0_2) := hS_
   refine norm_ (a' := ?_) ?_ ?_
   rotate_left
   ·simp only [putAll, Act.put, List.setIfInBounds_toArray, List.set_cons_zero, List.set_cons_succ]
    rfl
   refine two_ (i := 3) (j := 4) (Ni := some 6) (Nj := some 7) (bs 14 1903) (bs 14 1911) rfl rfl rfl rfl (two_of HT_.out (by kernel_rfl)) (by decide) (by decide) (fun K hK => ?_) (fun K hK => ?_)
   rotate_left
   ·skip
    refine Kd.R_lit_step (Kd.int .i64) _ 3 ?hg (N := 7) ?hd (xs := ([] : List Int)) (inner := []) (ok := fun _ => True) (okp := fun _ => True) ?hr ?hp (fun _ hk => hk) trivial (Below.refl _ _) (Nat.le_refl _) (by simp) ?_; (case hd => rfl); (case hg => rfl); (case hr => first | (go_simp; done) | (go_simp; rfl)); (case hp => exact (Reps.none _ _))
    intro v222 w13 ho14 hb hg_ hnew_
    clear hg_ hnew_
    (first | rw [← Ny221.out] at ho14 | (simp only [Int.reduceToNat] at ho14; rw [← Ny221.out] at ho14))
    have HO223 := Aside0.mk (Kd.R_lower (Kd.R_new' ho14 (rl_ HO217)) (below_size (hB HB)))
    replace HO217 := re_ HO217 ho14 hb
    replace HO229 := rb_ HO229 hb
    replace BK213 := bb_ BK213 hb
    replace BK214 := bb_ BK214 hb
    replace HB := bst_ HB hb
    clear hb ho14
    refine hK.out _ _ ⟨bc_ BK213 0, bc_ BK213 1, bc_ BK213 2⟩ (fun hHeld => ?_)
    clear hK K
    refine nm_ 7 ?_
    exact norm_ (by first | (simp only [putAll, Act.put, List.setIfInBounds_toArray, List.set_cons_zero, List.set_cons_succ]; done) | (simp only [putAll, Act.put, List.setIfInBounds_toArray, List.set_cons_zero, List.set_cons_succ]; rfl)) (hJ0_4_8 (v216, v222, v228) _ ⟨hHeld, (rm_ HO217 (fun _ hk => hk.2)).out, (rm_ HO223 (fun _ hk => hk.2)).out, (ra HO229.out), (ba BK213.out), (ba BK214.out), (hB HB)⟩)
   skip
   refine Kd.R_append_rows_step (Kd.int .i64) (w0 := w) w.heap.size (by rfl) (.tmp 3) (.tmp 5) 23 3 (.int .i64 0) 8 rfl Try.underlying23 info3 rfl (by decide) (by omega) v216 y215 l0_0 _ _ _ (fun _ => True) (fun _ => False) rfl rfl ?aO ?aR (fun _ _ h => h) (fun _ h => h.elim) ?aF ?aB ?aS ?aL ?_
   (case aR => exact cb_ HR0_0 HB)
   (case aB => exact (hB HB))
   (case aF => exact (fun _ _ => trivial))
   (case aO => exact (ra HO217.out))
   (case aS => exact (below_size (hB HB)))
   (case aL => have := LMc2.out; omega)
   intro v219 w13 ho hb hg hat
   rw [← Ny218.out] at ho
   have HO220 := Aside0.mk (ho)
   replace BK213 := Aside0.mk (blk_grown (g := gb213) (o := .cells #[.slice A0_0 l0_0.length c0_0, .slice A0_1 l0_1.length c0_1, .slice A0_2 l0_2.length c0_2] 26 (0, 0)) (ba BK213.out) hg (Kd.R_ne HO217.out BK213.out (by decide)))
   replace BK214 := Aside0.mk (blk_grown (g := gb214) (o := .cells #[.slice none 0 0, .slice none 0 0, .slice none 0 0] 26 (0, 0)) (ba BK214.out) hg (Kd.R_ne HO217.out BK214.out (by decide)))
   replace HO229 := Aside0.mk (Kd.R_over' (ra HO229.out) (Kd.R_typed (ra HO217.out)) (by decide) hg)
   replace HB := Aside0.mk (hb)
   clear HO217
   clear ho hb hg hat
   refine hK.out _ _ ⟨bc_ BK213 0, bc_ BK213 1, bc_ BK213 2⟩ (fun hHeld => ?_)
   clear hK K
   refine nm_ 6 ?_
   exact norm_ (by first | (simp only [putAll, Act.put, List.setIfInBounds_toArray, List.set_cons_zero, List.set_cons_succ]; done) | (simp only [putAll, Act.put, List.setIfInBounds_toArray, List.set_cons_zero, List.set_cons_succ]; rfl)) (hJ0_3_8 (v216, v219, v228) _ ⟨hHeld, (ra HO220.out), (ra HO229.out), (ba BK213.out), (ba BK214.out), (hB HB)⟩)
  intro hJ0_8
  refine join_ (σ := Value × Value) 6 (bs 14 1910) (fun s_ => [(7, s_.1), (11, s_.2)]) (fun s_ w' => (w'.cell? ⟨gb213, 0, none⟩ = some (.slice A0_0 l0_0.length c0_0) ∧ w'.cell? ⟨gb213, 1, none⟩ = some (.slice A0_1 l0_1.length c0_1) ∧ w'.cell? ⟨gb213, 2, none⟩ = some (.slice A0_2 l0_2.length c0_2)) ∧ (Kd.R (Kd.int .i64) 3 w' w.heap.size (fun _ => True) s_.1 y221) ∧ (Kd.R k36 36 w' w.heap.size (fun _ => True) s_.2 y227) ∧ (w'.heap[gb213]? = some (.cells #[.slice A0_0 l0_0.length c0_0, .slice A0_1 l0_1.length c0_1, .slice A0_2 l0_2.length c0_2] 26 (0, 0))) ∧ (w'.heap[gb214]? = some (.cells #[.slice none 0 0, .slice none 0 0, .slice none 0 0] 26 (0, 0))) ∧ (Below w.heap.size w w')) ?_ ?_
  rotate_left
  rotate_left
  ·skip
   rintro ⟨v222, v228⟩ w12 ⟨hS_, h0_, h1_, h2_, h3_, h4_⟩
   try dsimp only at h0_ h1_ h2_ h3_ h4_
   have HO223 := Aside0.mk h0_
   have HO229 := Aside0.mk h1_
   replace BK213 := Aside0.mk h2_
   replace BK214 := Aside0.mk h3_
   replace HB := Aside0.mk h4_
   clear h0_ h1_ h2_ h3_ h4_
   have hHeld : w12.cell? ⟨gb213, 0, none⟩ = some (.slice A0_0 l0_0.length c0_0) ∧ w12.cell? ⟨gb213, 1, none⟩ = some (.slice A0_1 l0_1.length c0_1) ∧ w12.cell? ⟨gb213, 2, none⟩ = some (.slice A0_2 l0_2.length c0_2) := hS_
   refine norm_ (a' := ?_) ?_ ?_
   rotate_left
   ·simp only [putAll, Act.put, List.setIfInBounds_toArray, List.set_cons_zero, List.set_cons_succ]
    rfl
   refine on_ 0 (some 3) (bs 14 1911) HT_ (fun K hK => ?_)
   refine Kd.R_lit_step (Kd.int .i64) _ 3 ?hg (N := 3) ?hd (xs := ([] : List Int)) (inner := []) (ok := fun _ => True) (okp := fun _ => True) ?hr ?hp (fun _ hk => hk) trivial (Below.refl _ _) (Nat.le_refl _) (by simp) ?_; (case hd => rfl); (case hg => rfl); (case hr => first | (go_simp; done) | (go_simp; rfl)); (case hp => exact (Reps.none _ _))
   intro v216 w13 ho14 hb hg_ hnew_
   clear hg_ hnew_
   (first | rw [← Ny215.out] at ho14 | (simp only [Int.reduceToNat] at ho14; rw [← Ny215.out] at ho14))
   have HO217 := Aside0.mk (Kd.R_lower (Kd.R_new' ho14 (rl_ HO223)) (below_size (hB HB)))
   replace HO223 := re_ HO223 ho14 hb
   replace HO229 := rb_ HO229 hb
   replace BK213 := bb_ BK213 hb
   replace BK214 := bb_ BK214 hb
   replace HB := bst_ HB hb
   clear hb ho14
   refine hK.out _ _ ⟨bc_ BK213 0, bc_ BK213 1, bc_ BK213 2⟩ (fun hHeld => ?_)
   clear hK K
   refine nm_ 3 ?_
   exact norm_ (by first | (simp only [putAll, Act.put, List.setIfInBounds_toArray, List.set_cons_zero, List.set_cons_succ]; done) | (simp only [putAll, Act.put, List.setIfInBounds_toArray, List.set_cons_zero, List.set_cons_succ]; rfl)) (hJ0_4_8 (v216, v222, v228) _ ⟨hHeld, (rm_ HO217 (fun _ hk => hk.2)).out, (rm_ HO223 (fun _ hk => hk.2)).out, (ra HO229.out), (ba BK213.out), (ba BK214.out), (hB HB)⟩)
  intro hJ4_8
  refine join_ (σ := Value) 7 (bs 14 1639) (fun s_ => [(3, s_)]) (fun s_ w' => (w'.cell? ⟨gb213, 0, none⟩ = some (.slice A0_0 l0_0.length c0_0) ∧ w'.cell? ⟨gb213, 1, none⟩ = some (.slice A0_1 l0_1.length c0_1) ∧ w'.cell? ⟨gb213, 2, none⟩ = some (.slice A0_2 l0_2.length c0_2)) ∧ (Kd.R (Kd.int .i64) 3 w' w.heap.size (fun _ => True) s_ y215) ∧ (w'.heap[gb213]? = some (.cells #[.slice A0_0 l0_0.length c0_0, .slice A0_1 l0_1.length c0_1, .slice A0_2 l0_2.length c0_2] 26 (0, 0))) ∧ (w'.heap[gb214]? = some (.cells #[.slice none 0 0, .slice none 0 0, .slice none 0 0] 26 (0, 0))) ∧ (Below w.heap.size w w')) ?_ ?_
  rotate_left
  rotate_left
  ·skip
   rintro v216 w10 ⟨hS_, h0_, h1_, h2_, h3_⟩
   try dsimp only at h0_ h1_ h2_ h3_
   have HO217 := Aside0.mk h0_
   replace BK213 := Aside0.mk h1_
   replace BK214 := Aside0.mk h2_
   replace HB := Aside0.mk h3_
   clear h0_ h1_ h2_ h3_
   have hHeld : w10.cell? ⟨gb213, 0, none⟩ = some (.slice A0_0 l0_0.length c0_0) ∧ w10.cell? ⟨gb213, 1, none⟩ = some (.slice A0_1 l0_1.length c0_1) ∧ w10.cell? ⟨gb213, 2, none⟩ = some (.slice A0_2 l0_2.length c0_2) := hS_
   refine norm_ (a' := ?_) ?_ ?_
   rotate_left
   ·simp only [putAll, Act.put, List.setIfInBounds_toArray, List.set_cons_zero, List.set_cons_succ]
    rfl
   refine three_ (i := 3) (j := 4) (k := 8) (Ni := some 6) (Nj := some 7) (Nk := some 11) (bs 14 1647) (bs 14 1655) (bs 14 1895) rfl rfl rfl rfl rfl rfl (three_of HT_.out (by kernel_rfl)) (by decide) (by decide) (by decide) (fun K hK => ?_) (fun K hK => ?_) (fun K hK => ?_)
   rotate_left
   ·skip
    refine Kd.R_lit_step (Kd.int .i64) _ 3 ?hg (N := 7) ?hd (xs := ([] : List Int)) (inner := []) (ok := fun _ => True) (okp := fun _ => True) ?hr ?hp (fun _ hk => hk) trivial (Below.refl _ _) (Nat.le_refl _) (by simp) ?_; (case hd => rfl); (case hg => rfl); (case hr => first | (go_simp; done) | (go_simp; rfl)); (case hp => exact (Reps.none _ _))
    intro v222 w11 ho12 hb hg_ hnew_
    clear hg_ hnew_
    (first | rw [← Ny221.out] at ho12 | (simp only [Int.reduceToNat] at ho12; rw [← Ny221.out] at ho12))
    have HO223 := Aside0.mk (Kd.R_lower (Kd.R_new' ho12 (rl_ HO217)) (below_size (hB HB)))
    replace HO217 := re_ HO217 ho12 hb
    replace BK213 := bb_ BK213 hb
    replace BK214 := bb_ BK214 hb
    replace HB := bst_ HB hb
    clear hb ho12
    refine hK.out _ _ ⟨bc_ BK213 0, bc_ BK213 1, bc_ BK213 2⟩ (fun hHeld => ?_)
    clear hK K
    refine nm_ 7 ?_
    exact norm_ (by first | (simp only [putAll, Act.put, List.setIfInBounds_toArray, List.set_cons_zero, List.set_cons_succ]; done) | (simp only [putAll, Act.put, List.setIfInBounds_toArray, List.set_cons_zero, List.set_cons_succ]; rfl)) (hJ0_4 (v216, v222) _ ⟨hHeld, (rm_ HO217 (fun _ hk => hk.2)).out, (rm_ HO223 (fun _ hk => hk.2)).out, (ba BK213.out), (ba BK214.out), (hB HB)⟩)
   ·skip
    refine Kd.R_lit_step k36 _ 36 ?hg (N := 11) ?hd (xs := ([] : List (S36))) (inner := []) (ok := fun _ => True) (okp := fun _ => True) ?hr ?hp (fun _ hk => hk) trivial (Below.refl _ _) (Nat.le_refl _) (by simp) ?_; (case hd => rfl); (case hg => rfl); (case hr => first | (go_simp; done) | (go_simp; rfl)); (case hp => exact (Reps.none _ _))
    intro v228 w11 ho12 hb hg_ hnew_
    clear hg_ hnew_
    (first | rw [← Ny227.out] at ho12 | (simp only [Int.reduceToNat] at ho12; rw [← Ny227.out] at ho12))
    have HO229 := Aside0.mk (Kd.R_lower ho12 (below_size (hB HB)))
    replace HO217 := rb_ HO217 hb
    replace BK213 := bb_ BK213 hb
    replace BK214 := bb_ BK214 hb
    replace HB := bst_ HB hb
    clear hb ho12
    refine hK.out _ _ ⟨bc_ BK213 0, bc_ BK213 1, bc_ BK213 2⟩ (fun hHeld => ?_)
    clear hK K
    refine nm_ 11 ?_
    exact norm_ (by first | (simp only [putAll, Act.put, List.setIfInBounds_toArray, List.set_cons_zero, List.set_cons_succ]; done) | (simp only [putAll, Act.put, List.setIfInBounds_toArray, List.set_cons_zero, List.set_cons_succ]; rfl)) (hJ0_8 (v216, v228) _ ⟨hHeld, (ra HO217.out), (ra HO229.out), (ba BK213.out), (ba BK214.out), (hB HB)⟩)
   skip
   refine Kd.R_append_rows_step (Kd.int .i64) (w0 := w) w.heap.size (by rfl) (.tmp 3) (.tmp 5) 23 3 (.int .i64 0) 8 rfl Try.underlying23 info3 rfl (by decide) (by omega) v216 y215 l0_0 _ _ _ (fun _ => True) (fun _ => False) rfl rfl ?aO ?aR (fun _ _ h => h) (fun _ h => h.elim) ?aF ?aB ?aS ?aL ?_
   (case aR => exact cb_ HR0_0 HB)
   (case aB => exact (hB HB))
   (case aF => exact (fun _ _ => trivial))
   (case aO => exact (ra HO217.out))
   (case aS => exact (below_size (hB HB)))
   (case aL => have := LMc2.out; omega)
   intro v219 w11 ho hb hg hat
   rw [← Ny218.out] at ho
   have HO220 := Aside0.mk (ho)
   replace BK213 := Aside0.mk (blk_grown (g := gb213) (o := .cells #[.slice A0_0 l0_0.length c0_0, .slice A0_1 l0_1.length c0_1, .slice A0_2 l0_2.length c0_2] 26 (0, 0)) (ba BK213.out) hg (Kd.R_ne HO217.out BK213.out (by decide)))
   replace BK214 := Aside0.mk (blk_grown (g := gb214) (o := .cells #[.slice none 0 0, .slice none 0 0, .slice none 0 0] 26 (0, 0)) (ba BK214.out) hg (Kd.R_ne HO217.out BK214.out (by decide)))
   replace HB := Aside0.mk (hb)
   clear HO217
   clear ho hb hg hat
   refine hK.out _ _ ⟨bc_ BK213 0, bc_ BK213 1, bc_ BK213 2⟩ (fun hHeld => ?_)
   clear hK K
   refine nm_ 6 ?_
   exact norm_ (by first | (simp only [putAll, Act.put, List.setIfInBounds_toArray, List.set_cons_zero, List.set_cons_succ]; done) | (simp only [putAll, Act.put, List.setIfInBounds_toArray, List.set_cons_zero, List.set_cons_succ]; rfl)) (hJ0_3 (v216, v219) _ ⟨hHeld, (ra HO220.out), (ba BK213.out), (ba BK214.out), (hB HB)⟩)
  intro hJ0
  refine join_ (σ := Value) 7 (bs 14 1654) (fun s_ => [(7, s_)]) (fun s_ w' => (w'.cell? ⟨gb213, 0, none⟩ = some (.slice A0_0 l0_0.length c0_0) ∧ w'.cell? ⟨gb213, 1, none⟩ = some (.slice A0_1 l0_1.length c0_1) ∧ w'.cell? ⟨gb213, 2, none⟩ = some (.slice A0_2 l0_2.length c0_2)) ∧ (Kd.R (Kd.int .i64) 3 w' w.heap.size (fun _ => True) s_ y221) ∧ (w'.heap[gb213]? = some (.cells #[.slice A0_0 l0_0.length c0_0, .slice A0_1 l0_1.length c0_1, .slice A0_2 l0_2.length c0_2] 26 (0, 0))) ∧ (w'.heap[gb214]? = some (.cells #[.slice none 0 0, .slice none 0 0, .slice none 0 0] 26 (0, 0))) ∧ (Below w.heap.size w w')) ?_ ?_
  rotate_left
  rotate_left
  ·skip
   rintro v222 w10 ⟨hS_, h0_, h1_, h2_, h3_⟩
   try dsimp only at h0_ h1_ h2_ h3_
   have HO223 := Aside0.mk h0_
   replace BK213 := Aside0.mk h1_
   replace BK214 := Aside0.mk h2_
   replace HB := Aside0.mk h3_
   clear h0_ h1_ h2_ h3_
   have hHeld : w10.cell? ⟨gb213, 0, none⟩ = some (.slice A0_0 l0_0.length c0_0) ∧ w10.cell? ⟨gb213, 1, none⟩ = some (.slice A0_1 l0_1.length c0_1) ∧ w10.cell? ⟨gb213, 2, none⟩ = some (.slice A0_2 l0_2.length c0_2) := hS_
   refine norm_ (a' := ?_) ?_ ?_
   rotate_left
   ·simp only [putAll, Act.put, List.setIfInBounds_toArray, List.set_cons_zero, List.set_cons_succ]
    rfl
   refine two_ (i := 0) (j := 8) (Ni := some 3) (Nj := some 11) (bs 14 1655) (bs 14 1910) rfl rfl rfl rfl (two_of HT_.out (by kernel_rfl)) (by decide) (by decide) (fun K hK => ?_) (fun K hK => ?_)
   rotate_left
   ·skip
    refine Kd.R_lit_step k36 _ 36 ?hg (N := 11) ?hd (xs := ([] : List (S36))) (inner := []) (ok := fun _ => True) (okp := fun _ => True) ?hr ?hp (fun _ hk => hk) trivial (Below.refl _ _) (Nat.le_refl _) (by simp) ?_; (case hd => rfl); (case hg => rfl); (case hr => first | (go_simp; done) | (go_simp; rfl)); (case hp => exact (Reps.none _ _))
    intro v228 w11 ho12 hb hg_ hnew_
    clear hg_ hnew_
    (first | rw [← Ny227.out] at ho12 | (simp only [Int.reduceToNat] at ho12; rw [← Ny227.out] at ho12))
    have HO229 := Aside0.mk (Kd.R_lower ho12 (below_size (hB HB)))
    replace HO223 := rb_ HO223 hb
    replace BK213 := bb_ BK213 hb
    replace BK214 := bb_ BK214 hb
    replace HB := bst_ HB hb
    clear hb ho12
    refine hK.out _ _ ⟨bc_ BK213 0, bc_ BK213 1, bc_ BK213 2⟩ (fun hHeld => ?_)
    clear hK K
    refine nm_ 11 ?_
    exact norm_ (by first | (simp only [putAll, Act.put, List.setIfInBounds_toArray, List.set_cons_zero, List.set_cons_succ]; done) | (simp only [putAll, Act.put, List.setIfInBounds_toArray, List.set_cons_zero, List.set_cons_succ]; rfl)) (hJ4_8 (v222, v228) _ ⟨hHeld, (ra HO223.out), (ra HO229.out), (ba BK213.out), (ba BK214.out), (hB HB)⟩)
   skip
   refine Kd.R_lit_step (Kd.int .i64) _ 3 ?hg (N := 3) ?hd (xs := ([] : List Int)) (inner := []) (ok := fun _ => True) (okp := fun _ => True) ?hr ?hp (fun _ hk => hk) trivial (Below.refl _ _) (Nat.le_refl _) (by simp) ?_; (case hd => rfl); (case hg => rfl); (case hr => first | (go_simp; done) | (go_simp; rfl)); (case hp => exact (Reps.none _ _))
   intro v216 w11 ho12 hb hg_ hnew_
   clear hg_ hnew_
   (first | rw [← Ny215.out] at ho12 | (simp only [Int.reduceToNat] at ho12; rw [← Ny215.out] at ho12))
   have HO217 := Aside0.mk (Kd.R_lower (Kd.R_new' ho12 (rl_ HO223)) (below_size (hB HB)))
   replace HO223 := re_ HO223 ho12 hb
   replace BK213 := bb_ BK213 hb
   replace BK214 := bb_ BK214 hb
   replace HB := bst_ HB hb
   clear hb ho12
   refine hK.out _ _ ⟨bc_ BK213 0, bc_ BK213 1, bc_ BK213 2⟩ (fun hHeld => ?_)
   clear hK K
   refine nm_ 3 ?_
   exact norm_ (by first | (simp only [putAll, Act.put, List.setIfInBounds_toArray, List.set_cons_zero, List.set_cons_succ]; done) | (simp only [putAll, Act.put, List.setIfInBounds_toArray, List.set_cons_zero, List.set_cons_succ]; rfl)) (hJ0_4 (v216, v222) _ ⟨hHeld, (rm_ HO217 (fun _ hk => hk.2)).out, (rm_ HO223 (fun _ hk => hk.2)).out, (ba BK213.out), (ba BK214.out), (hB HB)⟩)
  intro hJ4
  refine join_ (σ := Value) 7 (bs 14 1894) (fun s_ => [(11, s_)]) (fun s_ w' => (w'.cell? ⟨gb213, 0, none⟩ = some (.slice A0_0 l0_0.length c0_0) ∧ w'.cell? ⟨gb213, 1, none⟩ = some (.slice A0_1 l0_1.length c0_1) ∧ w'.cell? ⟨gb213, 2, none⟩ = some (.slice A0_2 l0_2.length c0_2)) ∧ (Kd.R k36 36 w' w.heap.size (fun _ => True) s_ y227) ∧ (w'.heap[gb213]? = some (.cells #[.slice A0_0 l0_0.length c0_0, .slice A0_1 l0_1.length c0_1, .slice A0_2 l0_2.length c0_2] 26 (0, 0))) ∧ (w'.heap[gb214]? = some (.cells #[.slice none 0 0, .slice none 0 0, .slice none 0 0] 26 (0, 0))) ∧ (Below w.heap.size w w')) ?_ ?_
  rotate_left
  rotate_left
  ·skip
   rintro v228 w10 ⟨hS_, h0_, h1_, h2_, h3_⟩
   try dsimp only at h0_ h1_ h2_ h3_
   have HO229 := Aside0.mk h0_
   replace BK213 := Aside0.mk h1_
   replace BK214 := Aside0.mk h2_
   replace HB := Aside0.mk h3_
   clear h0_ h1_ h2_ h3_
   have hHeld : w10.cell? ⟨gb213, 0, none⟩ = some (.slice A0_0 l0_0.length c0_0) ∧ w10.cell? ⟨gb213, 1, none⟩ = some (.slice A0_1 l0_1.length c0_1) ∧ w10.cell? ⟨gb213, 2, none⟩ = some (.slice A0_2 l0_2.length c0_2) := hS_
   refine norm_ (a' := ?_) ?_ ?_
   rotate_left
   ·simp only [putAll, Act.put, List.setIfInBounds_toArray, List.set_cons_zero, List.set_cons_succ]
    rfl
   refine two_ (i := 0) (j := 4) (Ni := some 3) (Nj := some 7) (bs 14 1895) (bs 14 1910) rfl rfl rfl rfl (two_of HT_.out (by kernel_rfl)) (by decide) (by decide) (fun K hK => ?_) (fun K hK => ?_)
   rotate_left
   ·skip
    refine Kd.R_lit_step (Kd.int .i64) _ 3 ?hg (N := 7) ?hd (xs := ([] : List Int)) (inner := []) (ok := fun _ => True) (okp := fun _ => True) ?hr ?hp (fun _ hk => hk) trivial (Below.refl _ _) (Nat.le_refl _) (by simp) ?_; (case hd => rfl); (case hg => rfl); (case hr => first | (go_simp; done) | (go_simp; rfl)); (case hp => exact (Reps.none _ _))
    intro v222 w11 ho12 hb hg_ hnew_
    clear hg_ hnew_
    (first | rw [← Ny221.out] at ho12 | (simp only [Int.reduceToNat] at ho12; rw [← Ny221.out] at ho12))
    have HO223 := Aside0.mk (Kd.R_lower ho12 (below_size (hB HB)))
    replace HO229 := rb_ HO229 hb
    replace BK213 := bb_ BK213 hb
    replace BK214 := bb_ BK214 hb
    replace HB := bst_ HB hb
    clear hb ho12
    refine hK.out _ _ ⟨bc_ BK213 0, bc_ BK213 1, bc_ BK213 2⟩ (fun hHeld => ?_)
    clear hK K
    refine nm_ 7 ?_
    exact norm_ (by first | (simp only [putAll, Act.put, List.setIfInBounds_toArray, List.set_cons_zero, List.set_cons_succ]; done) | (simp only [putAll, Act.put, List.setIfInBounds_toArray, List.set_cons_zero, List.set_cons_succ]; rfl)) (hJ4_8 (v222, v228) _ ⟨hHeld, (ra HO223.out), (ra HO229.out), (ba BK213.out), (ba BK214.out), (hB HB)⟩)
   skip
   refine Kd.R_lit_step (Kd.int .i64) _ 3 ?hg (N := 3) ?hd (xs := ([] : List Int)) (inner := []) (ok := fun _ => True) (okp := fun _ => True) ?hr ?hp (fun _ hk => hk) trivial (Below.refl _ _) (Nat.le_refl _) (by simp) ?_; (case hd => rfl); (case hg => rfl); (case hr => first | (go_simp; done) | (go_simp; rfl)); (case hp => exact (Reps.none _ _))
   intro v216 w11 ho12 hb hg_ hnew_
   clear hg_ hnew_
   (first | rw [← Ny215.out] at ho12 | (simp only [Int.reduceToNat] at ho12; rw [← Ny215.out] at ho12))
   have HO217 := Aside0.mk (Kd.R_lower ho12 (below_size (hB HB)))
   replace HO229 := rb_ HO229 hb
   replace BK213 := bb_ BK213 hb
   replace BK214 := bb_ BK214 hb
   replace HB := bst_ HB hb
   clear hb ho12
   refine hK.out _ _ ⟨bc_ BK213 0, bc_ BK213 1, bc_ BK213 2⟩ (fun hHeld => ?_)
   clear hK K
   refine nm_ 3 ?_
   exact norm_ (by first | (simp only [putAll, Act.put, List.setIfInBounds_toArray, List.set_cons_zero, List.set_cons_succ]; done) | (simp only [putAll, Act.put, List.setIfInBounds_toArray, List.set_cons_zero, List.set_cons_succ]; rfl)) (hJ0_8 (v216, v228) _ ⟨hHeld, (ra HO217.out), (ra HO229.out), (ba BK213.out), (ba BK214.out), (hB HB)⟩)
  intro hJ8
  refine three_ (i := 0) (j := 4) (k := 8) (Ni := some 3) (Nj := some 7) (Nk := some 11) (bs 14 1639) (bs 14 1654) (bs 14 1894) rfl rfl rfl rfl rfl rfl (three_of HT_.out (by kernel_rfl)) (by decide) (by decide) (by decide) (fun K hK => ?_) (fun K hK => ?_) (fun K hK => ?_)
  rotate_left
  ·skip
   refine Kd.R_lit_step (Kd.int .i64) _ 3 ?hg (N := 7) ?hd (xs := ([] : List Int)) (inner := []) (ok := fun _ => True) (okp := fun _ => True) ?hr ?hp (fun _ hk => hk) trivial (Below.refl _ _) (Nat.le_refl _) (by simp) ?_; (case hd => rfl); (case hg => rfl); (case hr => first | (go_simp; done) | (go_simp; rfl)); (case hp => exact (Reps.none _ _))
   intro v222 w8 ho9 hb hg_ hnew_
   clear hg_ hnew_
   (first | rw [← Ny221.out] at ho9 | (simp only [Int.reduceToNat] at ho9; rw [← Ny221.out] at ho9))
   have HO223 := Aside0.mk (Kd.R_lower ho9 (below_size (hB HB)))
   replace BK213 := bb_ BK213 hb
   replace BK214 := bb_ BK214 hb
   replace HB := bst_ HB hb
   clear hb ho9
   refine hK.out _ _ ⟨bc_ BK213 0, bc_ BK213 1, bc_ BK213 2⟩ (fun hHeld => ?_)
   clear hK K
   refine nm_ 7 ?_
   exact norm_ (by first | (simp only [putAll, Act.put, List.setIfInBounds_toArray, List.set_cons_zero, List.set_cons_succ]; done) | (simp only [putAll, Act.put, List.setIfInBounds_toArray, List.set_cons_zero, List.set_cons_succ]; rfl)) (hJ4 (v222) _ ⟨hHeld, (ra HO223.out), (ba BK213.out), (ba BK214.out), (hB HB)⟩)
  ·skip
   refine Kd.R_lit_step k36 _ 36 ?hg (N := 11) ?hd (xs := ([] : List (S36))) (inner := []) (ok := fun _ => True) (okp := fun _ => True) ?hr ?hp (fun _ hk => hk) trivial (Below.refl _ _) (Nat.le_refl _) (by simp) ?_; (case hd => rfl); (case hg => rfl); (case hr => first | (go_simp; done) | (go_simp; rfl)); (case hp => exact (Reps.none _ _))
   intro v228 w8 ho9 hb hg_ hnew_
   clear hg_ hnew_
   (first | rw [← Ny227.out] at ho9 | (simp only [Int.reduceToNat] at ho9; rw [← Ny227.out] at ho9))
   have HO229 := Aside0.mk (Kd.R_lower ho9 (below_size (hB HB)))
   replace BK213 := bb_ BK213 hb
   replace BK214 := bb_ BK214 hb
   replace HB := bst_ HB hb
   clear hb ho9
   refine hK.out _ _ ⟨bc_ BK213 0, bc_ BK213 1, bc_ BK213 2⟩ (fun hHeld => ?_)
   clear hK K
   refine nm_ 11 ?_
   exact norm_ (by first | (simp only [putAll, Act.put, List.setIfInBounds_toArray, List.set_cons_zero, List.set_cons_succ]; done) | (simp only [putAll, Act.put, List.setIfInBounds_toArray, List.set_cons_zero, List.set_cons_succ]; rfl)) (hJ8 (v228) _ ⟨hHeld, (ra HO229.out), (ba BK213.out), (ba BK214.out), (hB HB)⟩)
  skip
  refine Kd.R_lit_step (Kd.int .i64) _ 3 ?hg (N := 3) ?hd (xs := ([] : List Int)) (inner := []) (ok := fun _ => True) (okp := fun _ => True) ?hr ?hp (fun _ hk => hk) trivial (Below.refl _ _) (Nat.le_refl _) (by simp) ?_; (case hd => rfl); (case hg => rfl); (case hr => first | (go_simp; done) | (go_simp; rfl)); (case hp => exact (Reps.none _ _))
  intro v216 w8 ho9 hb hg_ hnew_
  clear hg_ hnew_
  (first | rw [← Ny215.out] at ho9 | (simp only [Int.reduceToNat] at ho9; rw [← Ny215.out] at ho9))
  have HO217 := Aside0.mk (Kd.R_lower ho9 (below_size (hB HB)))
  replace BK213 := bb_ BK213 hb
  replace BK214 := bb_ BK214 hb
  replace HB := bst_ HB hb
  clear hb ho9
  refine hK.out _ _ ⟨bc_ BK213 0, bc_ BK213 1, bc_ BK213 2⟩ (fun hHeld => ?_)
  clear hK K
  refine nm_ 3 ?_
  exact norm_ (by first | (simp only [putAll, Act.put, List.setIfInBounds_toArray, List.set_cons_zero, List.set_cons_succ]; done) | (simp only [putAll, Act.put, List.setIfInBounds_toArray, List.set_cons_zero, List.set_cons_succ]; rfl)) (hJ0 (v216) _ ⟨hHeld, (ra HO217.out), (ba BK213.out), (ba BK214.out), (hB HB)⟩)
 rintro ⟨v216, v219, v222, v225, v228⟩ w16 ⟨hS_, h0_, h1_, h2_, h3_, h4_, h5_⟩
 try dsimp only at h0_ h1_ h2_ h3_ h4_ h5_
 have HO220 := Aside0.mk h0_
 have HO226 := Aside0.mk h1_
 have HO229 := Aside0.mk h2_
 replace BK213 := Aside0.mk h3_
 replace BK214 := Aside0.mk h4_
 replace HB := Aside0.mk h5_
 clear h0_ h1_ h2_ h3_ h4_ h5_
 have hHeld : w16.cell? ⟨gb213, 0, none⟩ = some (.slice A0_0 l0_0.length c0_0) ∧ w16.cell? ⟨gb213, 1, none⟩ = some (.slice A0_1 l0_1.length c0_1) ∧ w16.cell? ⟨gb213, 2, none⟩ = some (.slice A0_2 l0_2.length c0_2) := hS_
 refine norm_ (a' := ?_) ?_ ?_
 rotate_left
 ·simp only [putAll, Act.put, List.setIfInBounds_toArray, List.set_cons_zero, List.set_cons_succ]
  rfl
 refine on_ 11 (some 14) (bs 14 4095) HT_ (fun K hK => ?_)
 refine Kd.R_append_rows_step k36 (w0 := w) w.heap.size (by rfl) (.tmp 11) (.tmp 13) 24 36 (.agg #[(.int .i64 0), (.bool false)]) 16 rfl Try.underlying24 info36 rfl (by decide) (by omega) v228 y227 l0_2 _ _ _ (fun _ => True) (fun _ => False) rfl rfl ?aO ?aR (fun _ _ h => h) (fun _ h => h.elim) ?aF ?aB ?aS ?aL ?_
 (case aR => exact cb_ HR0_2 HB)
 (case aB => exact (hB HB))
 (case aF => exact (fun _ _ => trivial))
 (case aO => exact (ra HO229.out))
 (case aS => exact (below_size (hB HB)))
 (case aL => have := LMc4.out; omega)
 intro v231 w17 ho hb hg hat
 rw [← Ny230.out] at ho
 have HO232 := Aside0.mk (ho)
 replace BK213 := Aside0.mk (blk_grown (g := gb213) (o := .cells #[.slice A0_0 l0_0.length c0_0, .slice A0_1 l0_1.length c0_1, .slice A0_2 l0_2.length c0_2] 26 (0, 0)) (ba BK213.out) hg (Kd.R_ne HO229.out BK213.out (by decide)))
 replace BK214 := Aside0.mk (blk_grown (g := gb214) (o := .cells #[.slice none 0 0, .slice none 0 0, .slice none 0 0] 26 (0, 0)) (ba BK214.out) hg (Kd.R_ne HO229.out BK214.out (by decide)))
 replace HO220 := Aside0.mk (Kd.R_over' (ra HO220.out) (Kd.R_typed (ra HO229.out)) (by decide) hg)
 replace HO226 := Aside0.mk (Kd.R_over' (ra HO226.out) (Kd.R_typed (ra HO229.out)) (by decide) hg)
 replace HB := Aside0.mk (hb)
 clear HO229
 clear ho hb hg hat
 obtain ⟨Ao18, co18, eo18⟩ := Kd.R_slice HO232.out
 subst eo18
 obtain ⟨Ao19, co19, eo19⟩ := Kd.R_slice HO226.out
 subst eo19
 obtain ⟨Ao20, co20, eo20⟩ := Kd.R_slice HO220.out
 subst eo20
 refine hK.out _ _ ⟨bc_ BK213 0, bc_ BK213 1, bc_ BK213 2⟩ (fun hHeld => ?_)
 clear hK K
 refine nm_ 14 ?_
 refine pu_ 12 15 (bs 14 8191) HT_ ?_
 refine on_ 13 (none) (bs 14 16383) HT_ (fun K hK => ?_)
 have hs21 : w17.cell? ⟨gb214, 0, none⟩ = some (.slice none 0 0) := bc_ BK214 0
 have hfs21 := bz_ BK214 0
 have hns21_0 := NB213_214.out
 have hms21_0 := NB214_213.out
 have hs22 : w17.cell? ⟨gb214, 1, none⟩ = some (.slice none 0 0) := bc_ BK214 1
 have hfs22 := bz_ BK214 1
 have hns22_0 := NB213_214.out
 have hms22_0 := NB214_213.out
 have hs23 : w17.cell? ⟨gb214, 2, none⟩ = some (.slice none 0 0) := bc_ BK214 2
 have hfs23 := bz_ BK214 2
 have hns23_0 := NB213_214.out
 have hms23_0 := NB214_213.out
 refine skip_ (w1 := ?_) (by rfl) rfl ?_ ?_
 rotate_left
 ·go_simp
  rfl
 refine hK.out _ _ ⟨((cell_far (p := ⟨gb214, _, none⟩) NB213_214.out _).trans (((cell_far (p := ⟨gb214, _, none⟩) NB213_214.out _).trans (((cell_far (p := ⟨gb214, _, none⟩) NB213_214.out _).trans (hHeld.1)))))), ((cell_far (p := ⟨gb214, _, none⟩) NB213_214.out _).trans (((cell_far (p := ⟨gb214, _, none⟩) NB213_214.out _).trans (((cell_far (p := ⟨gb214, _, none⟩) NB213_214.out _).trans (hHeld.2.1)))))), ((cell_far (p := ⟨gb214, _, none⟩) NB213_214.out _).trans (((cell_far (p := ⟨gb214, _, none⟩) NB213_214.out _).trans (((cell_far (p := ⟨gb214, _, none⟩) NB213_214.out _).trans (hHeld.2.2))))))⟩ (fun hHeld => ?_)
 clear hK K
 refine done_ (done_of HT_.out (by kernel_rfl)) ?_
 try go_wp2
 refine bodyPost_ret (results_cell_row rfl _ _ gb214 26 #[.slice Ao20 y218.length co20, .slice Ao19 y224.length co19, .slice Ao18 y230.length co18] (0, 0) _ rfl (bw0_ BK214) Try.underlying26 rfl (by kernel_rfl)) rfl ?_
 exact ⟨_, _, _, rt_, ro_ (fs3_ HO220.out BK214.out) (fun _ hk => hk.1), ro_ (fs3_ HO226.out BK214.out) (fun _ hk => hk.1), ro_ (fs3_ HO232.out BK214.out) (fun _ hk => trivial), hB HB⟩

end Go.Proofs.Ytefdgdloghhnaaa.P
