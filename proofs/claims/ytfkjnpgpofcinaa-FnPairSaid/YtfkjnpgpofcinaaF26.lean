import Derived.Shelf.RegionOpenPlain
import Derived.Deep.RegionLaw
import Derived.Lib.SliceRun
import Derived.Sort.WalkB12
import Derived.Test.YtfkjnpgpofcinaaF0
namespace Go.Proofs.Ytfkjnpgpofcinaa.P
open Go.RowKit Go.Proofs.YtfkjnpgpofcinaaW.PrintWords Go.Proofs.YtfkjnpgpofcinaaW.PrintLast Go.Proofs.YtfkjnpgpofcinaaW.PrintMore
attribute [local go_sem] max2_int min2_int max_two min_two max_three min_three max_four min_four   -- for this text's walks alone
set_option linter.unusedVariables false
set_option linter.unusedSimpArgs false
attribute [local go_sem high] eqA45 eqA76 eqA83

theorem pre_run_clear {P : Program} (w : World) (t e ty : TypeId) (z : Value) (ht : P.underlying t = some (.slice e)) (hv : ∀ w, (zeroValue e).run P w = .ok z w) (b o n c : Nat) (hn : 0 < n) (zs : List Value) (hz : (Builtin.zeroCells z.cells n).toList = zs) (h1 : ∀ v ∈ zs, v.oneCell' = true)
  (hc : ∀ j, j < zs.length → (w.cell? ⟨b, o + j, none⟩).isSome = true) (hf : ∀ j, j < zs.length → w.frozen? ⟨b, o + j, none⟩ = false) :
  (Builtin.clear_ #[t] ty #[.slice (some ⟨b, o, none⟩) n c]).run P w = .ok (.tuple #[]) (w.setCells b o zs) := by
 have hst := run_storeCells_cells (P := P) b o zs 0 w (by simpa using hc) (by simpa using hf) h1
 simp only [Nat.add_zero] at hst
 obtain ⟨m, rfl⟩ : ∃ m, n = m + 1 := ⟨n - 1, by omega⟩
 simp [Builtin.clear_, run_underlying ht, hv, hz, hst]
theorem pre_reps_take {α : Type} {R : α → List Value → Prop} {size m : Nat} {ps : List α} {cs : List Value} (h : Reps R size ps cs) : Reps R size (ps.take m) (cs.take (m * size)) := by
 have h0 := h.1
 refine ⟨?_, fun j p hj => ?_⟩
 · rw [List.length_take, List.length_take, h0]
   rcases Nat.le_total m ps.length with hm | hm
   · rw [Nat.min_eq_left hm, Nat.min_eq_left (Nat.mul_le_mul_right _ hm)]
   · rw [Nat.min_eq_right hm, Nat.min_eq_right (Nat.mul_le_mul_right _ hm)]
 · rw [List.getElem?_take] at hj
   split at hj
   · rename_i hlt
     have := h.2 j p hj
     have hle : j * size + size ≤ m * size := by rw [← Nat.succ_mul]; exact Nat.mul_le_mul_right _ hlt
     rw [List.drop_take, List.take_take, Nat.min_eq_left (by omega)]
     exact this
   · cases hj
theorem pre_cut {α : Type} {d : Kd α} {e g cap i j : Nat} {P0 : Nat → Prop} {w0 w : World} {xs : List α} {cur : Array Value} (hB : Below w0.heap.size w0 w) (hP : P0 g) (hbg : w0.heap.size ≤ g) (hg : w.heap[g]? = some (.cells cur e (0, 0))) (hnc : xs.length ≤ cap) (hcm : cap ≤ maxLen) (hcs : cur.size = cap * d.sz)
  (hr : Reps (d.M w w0.heap.size (fun k => P0 k ∧ some k ≠ some g)) d.sz xs (cur.toList.take (xs.length * d.sz))) (hij : i ≤ j) (hj : j ≤ xs.length) (zs : List Value) (hzs : zs.length = (j - i) * d.sz) {W : World}
  (hW : W = (w.drew.setCells g (i * d.sz) ((cur.toList.take (xs.length * d.sz)).drop (j * d.sz))).setCells g ((i + (xs.length - j)) * d.sz) zs) :
  Kd.R d e W w0.heap.size (fun k => P0 k ∨ w.heap.size ≤ k) (.slice (some ⟨g, 0, none⟩) (xs.length - (j - i)) cap) (xs.take i ++ xs.drop j) ∧ Below w0.heap.size w0 W ∧ Kept w W P0 := by
 obtain ⟨news, hnews⟩ : ∃ l, l = (cur.toList.take (xs.length * d.sz)).drop (j * d.sz) := ⟨_, rfl⟩
 rw [← hnews] at hW
 have hcl : cur.toList.length = cap * d.sz := by rw [Array.length_toList]; exact hcs
 have hxc : xs.length * d.sz ≤ cap * d.sz := Nat.mul_le_mul_right _ hnc
 have hnl : news.length = (xs.length - j) * d.sz := by rw [hnews, List.length_drop, List.length_take, hcl, Nat.min_eq_left hxc, Nat.sub_mul]
 have e1 : i * d.sz + (xs.length - j) * d.sz = (i + (xs.length - j)) * d.sz := (Nat.add_mul _ _ _).symm
 have e2 : (i + (xs.length - j)) * d.sz + (j - i) * d.sz = xs.length * d.sz := by rw [← Nat.add_mul]; congr 1; omega
 obtain ⟨c1, h1, s1, l1⟩ := setCells_row (e := e) news (i * d.sz) w.drew cur hg (by omega)
 obtain ⟨c2, h2, s2, l2⟩ := setCells_row (e := e) zs ((i + (xs.length - j)) * d.sz) (w.drew.setCells g (i * d.sz) news) c1 h1 (by rw [s1]; omega)
 rw [← hW] at h2
 have far : ∀ k, k ≠ g → W.heap[k]? = w.heap[k]? := fun k hk => by rw [hW, setCells_far zs _ k hk, setCells_far news _ k hk]; rfl
 obtain ⟨a1, a2, a3, a4⟩ := setCells_same g news (i * d.sz) w.drew
 obtain ⟨b1, b2, b3, b4⟩ := setCells_same g zs ((i + (xs.length - j)) * d.sz) (w.drew.setCells g (i * d.sz) news)
 rw [← hW] at b1 b2 b3 b4
 have hsz : W.heap.size = w.heap.size := b4.trans a4
 have hyl : (xs.take i ++ xs.drop j).length = i + (xs.length - j) := by rw [List.length_append, List.length_take, List.length_drop]; omega
 have hc1l : c1.toList.length = cap * d.sz := (Array.length_toList : c1.toList.length = c1.size).trans (s1.trans hcs)
 have hc2l : c2.toList.length = cap * d.sz := (Array.length_toList : c2.toList.length = c2.size).trans (s2.trans (s1.trans hcs))
 have hi1 : i * d.sz ≤ xs.length * d.sz := Nat.mul_le_mul_right _ (by omega)
 have hin : c2.toList.take ((i + (xs.length - j)) * d.sz) = (cur.toList.take (xs.length * d.sz)).take (i * d.sz) ++ (cur.toList.take (xs.length * d.sz)).drop (j * d.sz) := by
  have e3 : c2.toList.take ((i + (xs.length - j)) * d.sz) = c1.toList.take ((i + (xs.length - j)) * d.sz) := by
   rw [l2, List.append_assoc]
   exact List.take_left' (by rw [List.length_take]; omega)
  have e4 : c1.toList.take ((i + (xs.length - j)) * d.sz) = cur.toList.take (i * d.sz) ++ news := by
   rw [l1]
   exact List.take_left' (by rw [List.length_append, List.length_take, hnl]; omega)
  rw [e3, e4, List.take_take, Nat.min_eq_left hi1, hnews]
 refine ⟨?_, ⟨b1.trans (a1.trans hB.os), b2.trans (a2.trans hB.tape), b3.trans (a3.trans hB.output), by rw [hsz]; exact hB.size, fun k hk => (far k (by omega)).trans (hB.block k hk)⟩, by omega, fun k _ hn => far k (fun he => hn (he ▸ hP))⟩
 rw [show xs.length - (j - i) = (xs.take i ++ xs.drop j).length by rw [hyl]; omega]
 refine ⟨fun k hk => Or.inl ?_, c2.toList.take ((i + (xs.length - j)) * d.sz), ⟨?_, .inr ⟨g, cap, c2, rfl, hbg, h2, by rw [hyl]; omega, hcm, by rw [s2, s1]; exact hcs, by rw [hyl]⟩⟩, ?_⟩
 · have : g = k := by simpa [Value.ownBlock] using hk
   exact this ▸ hP
 · rw [List.length_take, hc2l, hyl, Nat.min_eq_left (by omega)]
 · rw [hin]
   refine (Kd.reps_append (pre_reps_take hr) (Kd.reps_drop hr)).imp_ (fun p c hp => ?_)
   exact d.M_mono (fun k hk => ⟨Or.inl hk.1, hk.2⟩) (d.M_move (fun k hk => far k (fun he => hk.2 (by rw [he]))) hp)
theorem pre_ones {α : Type} {d : Kd α} {w : World} {base : Nat} {ok : Nat → Prop} {xs : List α} {cs : List Value} (h : Reps (d.M w base ok) d.sz xs cs) : ∀ u ∈ cs, u.oneCell' = true := by
 intro u hu
 obtain ⟨t, ht, rfl⟩ := List.mem_iff_getElem.1 hu
 have hl := h.1
 have hs : 0 < d.sz := by
  rcases Nat.eq_zero_or_pos d.sz with h0 | h0
  · rw [h0, Nat.mul_zero] at hl; omega
  · exact h0
 have hq : t / d.sz < xs.length := Nat.div_lt_of_lt_mul (by rw [Nat.mul_comm]; omega)
 have hM := h.2 (t / d.sz) _ (List.getElem?_eq_getElem hq)
 refine d.K_one (d.K_of_M hM) _ ?_
 rw [List.mem_iff_getElem?]
 refine ⟨t % d.sz, ?_⟩
 rw [List.getElem?_take, if_pos (Nat.mod_lt _ hs), List.getElem?_drop, Nat.div_add_mod', List.getElem?_eq_getElem ht]
def impl_Hello_85.f (l0 : List (S45)) (a1 : Int) (a2 : Int) : Option ((List (S45))) := if 0 ≤ a2 then (if a2 ≤ (l0.length : Int) then ((some (l0.take (a2 : Int).toNat : List (S45))).bind fun y753 => (if 0 ≤ a1 then (if a1 ≤ (y753.length : Int) then ((some (y753.take (a1 : Int).toNat : List (S45))).bind fun y757 => (if a1 = a2 then (some l0) else ((some (([] : List (S45)) : List (S45))).bind fun y761 => (if y761.length + y757.length < 8796093022208 then ((some (y761 ++ y757 : List (S45))).bind fun y764 => ((some (l0.drop (a2 : Int).toNat : List (S45))).bind fun y767 => (if y764.length + y767.length < 8796093022208 then (some (y764 ++ y767)) else (none)))) else (none))))) else (none)) else (none))) else (none)) else (none)
set_option maxHeartbeats 8000000 in
set_option maxRecDepth 100000 in
theorem impl_Hello_85.calls (P0_ : Nat → Prop) (u9000_ : Value) (l0 : List (S45)) (a1 : Int) (a2 : Int) (r : List (S45)) (w0 w : World) (hB : Below w0.heap.size w0 w) (ho0 : Kd.R k45 45 w w0.heap.size P0_ u9000_ l0) (h : impl_Hello_85.f l0 a1 a2 = some r) :
  Calls Try.prog 85 #[u9000_, .int .i64 a1, .int .i64 a2] w fun e w' => ∃ v0_ : Value, e = .returned (v0_) ∧ Kd.R k45 45 w' w0.heap.size (fun k_ => (P0_ k_ ∨ w.heap.size ≤ k_)) v0_ r ∧ Below w0.heap.size w0 w' ∧ Kept w w' (fun k_ => P0_ k_) := by
 have hf : 0 ≤ a1 ∧ a1 ≤ a2 ∧ a2 ≤ l0.length ∧ r = l0.take a1.toNat ++ l0.drop a2.toNat := by
  unfold impl_Hello_85.f at h
  simp only [Option.bind_some] at h
  by_cases g1 : 0 ≤ a2
  · by_cases g2 : a2 ≤ (l0.length : Int)
    · rw [if_pos g1, if_pos g2] at h
      by_cases g3 : 0 ≤ a1
      · by_cases g4 : a1 ≤ ((l0.take a2.toNat).length : Int)
        · rw [if_pos g3, if_pos g4] at h
          rw [List.length_take] at g4
          refine ⟨g3, by omega, g2, ?_⟩
          by_cases g5 : a1 = a2
          · rw [if_pos g5] at h
            subst g5
            rw [List.take_append_drop]
            exact (Option.some.inj h).symm
          · rw [if_neg g5, List.take_take] at h
            split at h
            · split at h
              · have := (Option.some.inj h).symm
                rw [List.nil_append, Nat.min_eq_left (by omega)] at this
                exact this
              · cases h
            · cases h
        · rw [if_pos g3, if_neg g4] at h; cases h
      · rw [if_neg g3] at h; cases h
    · rw [if_pos g1, if_neg g2] at h; cases h
  · rw [if_neg g1] at h; cases h
 obtain ⟨f1, f2, f3, rfl⟩ := hf
 clear h
 obtain ⟨i, rfl⟩ : ∃ i : Nat, a1 = (i : Int) := ⟨a1.toNat, by omega⟩
 obtain ⟨j, rfl⟩ : ∃ j : Nat, a2 = (j : Int) := ⟨a2.toNat, by omega⟩
 rw [Int.toNat_natCast, Int.toNat_natCast]
 have hij : i ≤ j := by omega
 have hj : j ≤ l0.length := by omega
 clear f1 f2 f3
 have hR := ho0
 obtain ⟨hok, inner, ⟨hil, hcase⟩, hr⟩ := ho0
 by_cases heq : i = j
 · subst heq
   have hP : ∃ A n c, u9000_ = .slice A n c ∧ n = l0.length ∧ n ≤ c := by
    rcases hcase with ⟨rfl, hn⟩ | ⟨g, cap, cur, rfl, hbg, hg, hnc, hcm, hcs, htk⟩
    · exact ⟨none, 0, 0, rfl, hn.symm, Nat.le_refl _⟩
    · exact ⟨_, _, _, rfl, rfl, hnc⟩
   obtain ⟨A, n, c, rfl, rfl, hnc⟩ := hP
   clear hok hil hcase hr
   have h0 : Calls Try.prog 85 #[.slice A l0.length c, .int .i64 i, .int .i64 i] w fun e w' => e = .returned (.slice A l0.length c) ∧ w' = w := by
    have hic : i ≤ c := by omega
    clear hR
    go_enter Try.func85, Try.ntmps85
    go_wp2
    all_goals (go_ret; exact ⟨rfl, rfl⟩)
   refine h0.mono ?_
   rintro e w' ⟨rfl, rfl⟩
   rw [List.take_append_drop]
   exact ⟨_, rfl, Kd.R_mono hR (fun _ hk => Or.inl hk), hB, Kept.refl _ _⟩
 · rcases hcase with ⟨rfl, hn⟩ | ⟨g, cap, cur, rfl, hbg, hg, hnc, hcm, hcs, htk⟩
   · exact absurd hn (by omega)
   · have hP : P0_ g := hok g rfl
     subst htk
     have hlt : i < j := by omega
     have hm : cap ≤ 9223372036854775807 := by unfold maxLen at hcm; omega
     obtain ⟨i0, hi0, hz0, hz1, hz2⟩ := info_parts info45
     have hcell : ∀ t, t < cap * 2 → (w.cell? ⟨g, t, none⟩).isSome = true ∧ w.frozen? ⟨g, t, none⟩ = false := by
      intro t ht
      refine ⟨?_, frozen_of_row w g t cur 45 hg⟩
      rw [cell_of_row w g t cur 45 (0, 0) hg, Array.getElem?_eq_getElem (by rw [hcs]; exact ht)]
      rfl
     obtain ⟨news, hnews⟩ : ∃ news, news = (cur.toList.take (l0.length * 2)).drop (j * 2) := ⟨_, rfl⟩
     have hlen : news.length = (l0.length - j) * 2 := by
      rw [hnews, List.length_drop, List.length_take, (Array.length_toList : cur.toList.length = cur.size), hcs]
      show min (l0.length * 2) (cap * 2) - j * 2 = _
      omega
     obtain ⟨A, hA, hsrc⟩ : ∃ A : Addr, (if cap = j then some (⟨g, 0, none⟩ : Addr) else some ⟨g, j * 2, none⟩) = some A ∧ Hid (∀ t u, news[t]? = some u → w.drew.cell? (A.add t) = some u) := by
      by_cases h : cap = j
      · refine ⟨⟨g, 0, none⟩, by simp [h], fun t u hu => ?_⟩
        have h0 : news.length = 0 := by rw [hlen]; omega
        rw [List.length_eq_zero_iff.1 h0] at hu
        simp at hu
      · refine ⟨⟨g, j * 2, none⟩, by simp [h], fun t u hu => ?_⟩
        have ht : t < news.length := (List.getElem?_eq_some_iff.1 hu).1
        rw [hnews, List.getElem?_drop, List.getElem?_take] at hu
        rw [Addr.add_lit]
        show w.cell? ⟨g, j * 2 + t, none⟩ = some u
        rw [cell_of_row w g _ cur 45 (0, 0) hg]
        split at hu
        · rw [← Array.getElem?_toList]; exact hu
        · cases hu
     have s1 : Hid (news.length = (l0.length - j) * 2) := hlen
     have hone : Hid (∀ u ∈ cur.toList.take (l0.length * 2), u.oneCell' = true) := pre_ones hr
     have s2 : Hid (∀ u ∈ news, u.oneCell' = true) := by
      intro u hu
      rw [hnews] at hu
      exact hone u (List.mem_of_mem_drop hu)
     have s3 : Hid (∀ t, t < news.length → (w.drew.cell? ⟨g, 0 + i * 2 + t, none⟩).isSome = true ∧ w.drew.frozen? ⟨g, 0 + i * 2 + t, none⟩ = false) := by
      intro t ht
      rw [hlen] at ht
      exact hcell _ (by omega)
     obtain ⟨W1, hW1⟩ : ∃ W1, W1 = w.drew.setCells g (0 + i * 2) news := ⟨_, rfl⟩
     obtain ⟨zs, hzs⟩ : ∃ zs, zs = (Builtin.zeroCells (Value.agg #[(.int .i64 0), (.bool false)]).cells (l0.length - (i + (l0.length - j)))).toList := ⟨_, rfl⟩
     have hzl : zs.length = (j - i) * 2 := by
      rw [hzs]; simp [Builtin.zeroCells, Value.cells]; omega
     have hzo : ∀ u ∈ zs, u.oneCell' = true := by
      intro u hu
      rw [hzs] at hu
      simp only [Builtin.zeroCells, Value.cells, Array.toList_map, List.mem_map] at hu
      obtain ⟨q, _, rfl⟩ := hu
      have hq : q % 2 < 2 := Nat.mod_lt _ (by decide)
      have hq2 : q % 2 = 0 ∨ q % 2 = 1 := by omega
      rcases hq2 with h2 | h2 <;> simp [h2, Value.oneCell']
     have hv : ∀ w, (zeroValue 45).run Try.prog w = .ok (.agg #[(.int .i64 0), (.bool false)]) w := fun w => by simp [zeroValue, typeInfo, hi0, hz0]
     obtain ⟨c1, q1, q2, _⟩ := setCells_row (e := 45) news (0 + i * 2) w.drew cur hg (by rw [hlen, hcs]; show 0 + i * 2 + (l0.length - j) * 2 ≤ cap * 2; omega)
     rw [← hW1] at q1
     have hcell1 : ∀ t, t < cap * 2 → (W1.cell? ⟨g, t, none⟩).isSome = true ∧ W1.frozen? ⟨g, t, none⟩ = false := by
      intro t ht
      refine ⟨?_, frozen_of_row W1 g t c1 45 q1⟩
      rw [cell_of_row W1 g t c1 45 (0, 0) q1, Array.getElem?_eq_getElem (by rw [q2, hcs]; exact ht)]
      rfl
     have hcl : ∀ ty, (Builtin.clear_ #[33] ty #[.slice (some ⟨g, (i + (l0.length - j)) * 2, none⟩) (l0.length - (i + (l0.length - j))) (cap - (i + (l0.length - j)))]).run Try.prog W1 = .ok (.tuple #[]) (W1.setCells g ((i + (l0.length - j)) * 2) zs) :=
      fun ty => pre_run_clear W1 33 45 ty _ Try.underlying33 hv g _ _ _ (by omega) zs hzs.symm hzo (fun t ht => (hcell1 _ (by rw [hzl] at ht; omega)).1) (fun t ht => (hcell1 _ (by rw [hzl] at ht; omega)).2)
     have hW : Hid (W1 = w.drew.setCells g (0 + i * 2) news) := hW1
     have X : Hid (∀ W, W = W1.setCells g ((i + (l0.length - j)) * 2) zs → W = (w.drew.setCells g (i * 2) ((cur.toList.take (l0.length * 2)).drop (j * 2))).setCells g ((i + (l0.length - j)) * 2) zs) := by
      intro W hWW
      rw [hWW, hW1, Nat.zero_add, hnews]
     have hic : i ≤ cap := by omega
     have hjc : j ≤ cap := by omega
     have mixed : Try.prog.follows Departure.mixedOrders = true := by kernel_rfl
     clear hW1 hcell hcell1 hone hnews hlen q1 q2 hR hil
     go_enter Try.func85, Try.ntmps85
     go_wp2_with fail
     go_region_law_o (refine step_append_room rfl (.tmp 22) (.tmp 25) 33 rfl 45 i0 2 Try.underlying33 hi0 hz1 g 0 i cap (by simp [Act.eval, Act.put]) A (l0.length - j) (cap - j) news (by simp [Act.eval, Act.put]) s1.out hsrc.out s2.out (by omega) s3.out ?_; rw [← hW.out])
     go_wp2
     go_ret
     obtain ⟨x1, x2, x3⟩ := pre_cut (d := k45) (e := 45) hB hP hbg hg hnc hcm hcs hr hij hj zs hzl (X.out _ rfl)
     rw [hzs, show l0.length - (j - i) = i + (l0.length - j) by omega] at x1
     rw [hzs] at x2 x3
     exact ⟨_, rfl, x1, x2, x3⟩

def impl_nextState.f (a0 : Bool) : Option (Int) := if a0 = true then (some 2) else (some 1)
set_option maxHeartbeats 8000000 in
set_option maxRecDepth 100000 in
theorem impl_nextState.calls (a0 : Bool) (r : Int) (w : World) (h : impl_nextState.f a0 = some r) :
  Calls Try.prog 86 #[.bool a0] w fun e w' => e = .returned (.int .i64 r) ∧ Drawn0 w w' := by
 have H : (if a0 = true then (some 2) else (some 1)) = some r := h
 clear h
 by_cases c2 : a0 = true
 ·subst c2
  rw [if_pos rfl] at H
  obtain rfl := Option.some.inj H
  go_enter Try.func86, Try.ntmps86
  go_wp2
  go_ret
  exact ⟨by first | rfl | (simp; done) | (simp [*]; done), by repeat (first | exact Drawn0.refl _ | apply Drawn0.step)⟩
 replace c2 := Bool.eq_false_iff.mpr c2
 subst c2
 rw [if_neg (show ¬ (false = true) by decide)] at H
 obtain rfl := Option.some.inj H
 go_enter Try.func86, Try.ntmps86
 go_wp2
 go_ret
 exact ⟨by first | rfl | (simp; done) | (simp [*]; done), by repeat (first | exact Drawn0.refl _ | apply Drawn0.step)⟩

end Go.Proofs.Ytfkjnpgpofcinaa.P
