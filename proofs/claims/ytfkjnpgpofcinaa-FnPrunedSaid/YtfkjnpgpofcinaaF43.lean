import Derived.Test.YtfkjnpgpofcinaaF0
import Derived.Test.YtfkjnpgpofcinaaF3
import Derived.Test.YtfkjnpgpofcinaaF4
import Derived.Test.YtfkjnpgpofcinaaF20
import Derived.Test.YtfkjnpgpofcinaaF40
import Derived.Test.YtfkjnpgpofcinaaF41
import Derived.Test.YtfkjnpgpofcinaaF42
namespace Go.Proofs.Ytfkjnpgpofcinaa.P
open Go.RowKit Go.Proofs.YtfkjnpgpofcinaaW.PrintWords Go.Proofs.YtfkjnpgpofcinaaW.PrintLast Go.Proofs.YtfkjnpgpofcinaaW.PrintMore
attribute [local go_sem] max2_int min2_int max_two min_two max_three min_three max_four min_four   -- for this text's walks alone
set_option linter.unusedVariables false
set_option linter.unusedSimpArgs false
attribute [local go_sem high] eqA45 eqA76 eqA83

mutual
def laws_FnPruned.j0 : Nat → List Int → List Int → Int → List Int → List (S76) → Bool → Int → Bool → Bool → Option (Bool)
 | 0, _, _, _, _, _, _, _, _, _ => none
 | k + 1, x1, x5, x6, x7, x8, x9, x12, x13, x95 => if x95 = true then (some false) else (if x9 = true then ((impl_SpreadOn.f k x5 x6).bind fun bt1731 => ((impl_ReachedBy.f k x8 x6).bind fun bt1735 => ((impl_ReachedBy.f k bt1731.1 x6).bind fun bt1739 => (if x13 = true then (if bt1731.2 = true then (if x12 = (wrap64 ((bt1731.1.length : Int) - (x8.length : Int))) then (if bt1735.2 = true then (if bt1739.2 = true then (laws_FnPruned.j1 k x1 x5 x7 x8 bt1735.1 bt1739.1 ((bt1735.1.length : Int) != (wrap64 ((x8.length : Int) + 1)))) else (laws_FnPruned.j1 k x1 x5 x7 x8 bt1735.1 bt1739.1 true)) else (laws_FnPruned.j1 k x1 x5 x7 x8 bt1735.1 bt1739.1 true)) else (laws_FnPruned.j1 k x1 x5 x7 x8 bt1735.1 bt1739.1 true)) else (laws_FnPruned.j1 k x1 x5 x7 x8 bt1735.1 bt1739.1 true)) else (laws_FnPruned.j1 k x1 x5 x7 x8 bt1735.1 bt1739.1 true))))) else (laws_FnPruned.j5 k x1))
def laws_FnPruned.j5 : Nat → List Int → Option (Bool)
 | 0, _ => none
 | k + 1, x1 => (spec_DrawReachedBy.f k x1).bind fun bt1754 => ((impl_ReachedBy.f k bt1754.1 bt1754.2).bind fun bt1758 => ((spec_ReachedBy.f k bt1754.1 bt1754.2).bind fun bt1762 => (if (bt1758.2 == bt1762.2) = true then ((laws_sameInts.f k bt1758.1 bt1762.1).bind fun t1766 => (some t1766)) else (some false))))
def laws_FnPruned.j1 : Nat → List Int → List Int → List Int → List (S76) → List Int → List Int → Bool → Option (Bool)
 | 0, _, _, _, _, _, _, _ => none
 | k + 1, x1, x5, x7, x8, x18, x20, x145 => if x145 = true then (some false) else (laws_FnPruned.l0 k x1 x5 x7 x8 x18 x20 x7 (x7.length : Int) 0)
def laws_FnPruned.l0 : Nat → List Int → List Int → List Int → List (S76) → List Int → List Int → List Int → Int → Int → Option (Bool)
 | 0, _, _, _, _, _, _, _, _, _ => none
 | k + 1, x1, x5, x7, x8, x18, x20, x146, x147, x148 => if x148 < x147 then (if 0 ≤ x148 then (if x148 < (x146.length : Int) then ((laws_has.f k x20 (rd x146 x148)).bind fun t1744 => ((laws_has.f k x18 (rd x146 x148)).bind fun t1745 => (if (t1744 != t1745) = true then (some false) else (laws_FnPruned.l0 k x1 x5 x7 x8 x18 x20 x146 x147 (wrap64 (x148 + 1)))))) else (none)) else (none)) else (laws_FnPruned.l1 k x1 x5 x7 x8 (x8.length : Int) 0)
def laws_FnPruned.l1 : Nat → List Int → List Int → List Int → List (S76) → Int → Int → Option (Bool)
 | 0, _, _, _, _, _, _ => none
 | k + 1, x1, x5, x7, x160, x161, x162 => if x162 < x161 then (if 0 ≤ x162 then (if x162 < (x160.length : Int) then ((impl_BehindOf.f k x5 ((rd_T76 x160 x162).f0) ((rd_T76 x160 x162).f1)).bind fun bt1748 => (laws_FnPruned.l2 k x1 x5 x7 bt1748.2 false x160 x161 x162 bt1748.1 (bt1748.1.length : Int) 0)) else (none)) else (none)) else (laws_FnPruned.j5 k x1)
def laws_FnPruned.l2 : Nat → List Int → List Int → List Int → Bool → Bool → List (S76) → Int → Int → List Int → Int → Int → Option (Bool)
 | 0, _, _, _, _, _, _, _, _, _, _, _ => none
 | k + 1, x1, x5, x7, x27, x28, x160, x161, x162, x175, x176, x177 => if x177 < x176 then (if 0 ≤ x177 then (if x177 < (x175.length : Int) then (if x28 = true then (laws_FnPruned.l2 k x1 x5 x7 x27 true x160 x161 x162 x175 x176 (wrap64 (x177 + 1))) else ((laws_has.f k x7 (rd x175 x177)).bind fun t1753 => (laws_FnPruned.l2 k x1 x5 x7 x27 t1753 x160 x161 x162 x175 x176 (wrap64 (x177 + 1))))) else (none)) else (none)) else (if x27 = true then (if x28 = true then (laws_FnPruned.l1 k x1 x5 x7 x160 x161 (wrap64 (x162 + 1))) else (some false)) else (some false))
end
def laws_FnPruned.f (k : Nat) (l0 : List Int) (l1 : List Int) : Option (Bool) := if (wrap64 ((l0.length : Int) + (l1.length : Int))) > 1048576 then (some true) else ((spec_DrawWantsOn.f k l0).bind fun bt1711 => ((impl_WantsOn.f k bt1711.1 bt1711.2.1 bt1711.2.2).bind fun bt1718 => ((spec_WantsOn.f k bt1711.1 bt1711.2.1 bt1711.2.2).bind fun bt1722 => ((impl_SavedBy.f k bt1711.1 bt1711.2.1 bt1711.2.2).bind fun bt1726 => ((spec_SavedBy.f k bt1711.1 bt1711.2.1 bt1711.2.2).bind fun bt1728 => (if (bt1718.2 != bt1722.2) = true then (laws_FnPruned.j0 k l1 bt1711.1 bt1711.2.1 bt1711.2.2 bt1718.1 bt1718.2 bt1726.1 bt1726.2 true) else ((laws_sameHops.f k bt1718.1 bt1722.1).bind fun t1730 => (if t1730 = true then (if (bt1726.2 != bt1728.2) = true then (laws_FnPruned.j0 k l1 bt1711.1 bt1711.2.1 bt1711.2.2 bt1718.1 bt1718.2 bt1726.1 bt1726.2 true) else (laws_FnPruned.j0 k l1 bt1711.1 bt1711.2.1 bt1711.2.2 bt1718.1 bt1718.2 bt1726.1 bt1726.2 (bt1726.1 != bt1728.1))) else (laws_FnPruned.j0 k l1 bt1711.1 bt1711.2.1 bt1711.2.2 bt1718.1 bt1718.2 bt1726.1 bt1726.2 true)))))))))
theorem laws_FnPruned.mono_l : ∀ k, (∀ y0 y1 y2 y3 y4 y5 y6 y7 y8, LeO (laws_FnPruned.j0 k y0 y1 y2 y3 y4 y5 y6 y7 y8) (laws_FnPruned.j0 (k + 1) y0 y1 y2 y3 y4 y5 y6 y7 y8)) ∧ (∀ y0, LeO (laws_FnPruned.j5 k y0) (laws_FnPruned.j5 (k + 1) y0)) ∧ (∀ y0 y1 y2 y3 y4 y5 y6, LeO (laws_FnPruned.j1 k y0 y1 y2 y3 y4 y5 y6) (laws_FnPruned.j1 (k + 1) y0 y1 y2 y3 y4 y5 y6)) ∧ (∀ y0 y1 y2 y3 y4 y5 y6 y7 y8, LeO (laws_FnPruned.l0 k y0 y1 y2 y3 y4 y5 y6 y7 y8) (laws_FnPruned.l0 (k + 1) y0 y1 y2 y3 y4 y5 y6 y7 y8)) ∧ (∀ y0 y1 y2 y3 y4 y5, LeO (laws_FnPruned.l1 k y0 y1 y2 y3 y4 y5) (laws_FnPruned.l1 (k + 1) y0 y1 y2 y3 y4 y5)) ∧ (∀ y0 y1 y2 y3 y4 y5 y6 y7 y8 y9 y10, LeO (laws_FnPruned.l2 k y0 y1 y2 y3 y4 y5 y6 y7 y8 y9 y10) (laws_FnPruned.l2 (k + 1) y0 y1 y2 y3 y4 y5 y6 y7 y8 y9 y10))
 | 0 => ⟨fun _ _ _ _ _ _ _ _ _ r h => by simp [laws_FnPruned.j0] at h, fun _ r h => by simp [laws_FnPruned.j5] at h, fun _ _ _ _ _ _ _ r h => by simp [laws_FnPruned.j1] at h, fun _ _ _ _ _ _ _ _ _ r h => by simp [laws_FnPruned.l0] at h, fun _ _ _ _ _ _ r h => by simp [laws_FnPruned.l1] at h, fun _ _ _ _ _ _ _ _ _ _ _ r h => by simp [laws_FnPruned.l2] at h⟩
 | k + 1 => by
  obtain ⟨ih0, ih1, ih2, ih3, ih4, ih5⟩ := laws_FnPruned.mono_l k
  refine ⟨?_, ?_, ?_, ?_, ?_, ?_⟩
  ·intro y0 y1 y2 y3 y4 y5 y6 y7 y8
   unfold laws_FnPruned.j0
   repeat' first
   | (with_reducible exact ih0 _ _ _ _ _ _ _ _ _)
   | (with_reducible exact ih1 _)
   | (with_reducible exact ih2 _ _ _ _ _ _ _)
   | (with_reducible exact ih3 _ _ _ _ _ _ _ _ _)
   | (with_reducible exact ih4 _ _ _ _ _ _)
   | (with_reducible exact ih5 _ _ _ _ _ _ _ _ _ _ _)
   | (with_reducible exact impl_BehindOf.mono _ _ _ _)
   | (with_reducible exact impl_ReachedBy.mono _ _ _)
   | (with_reducible exact impl_SavedBy.mono _ _ _ _)
   | (with_reducible exact impl_SpreadOn.mono _ _ _)
   | (with_reducible exact impl_WantsOn.mono _ _ _ _)
   | (with_reducible exact laws_has.mono _ _ _)
   | (with_reducible exact laws_sameHops.mono _ _ _)
   | (with_reducible exact laws_sameInts.mono _ _ _)
   | (with_reducible exact spec_DrawReachedBy.mono _ _)
   | (with_reducible exact spec_DrawWantsOn.mono _ _)
   | (with_reducible exact spec_ReachedBy.mono _ _ _)
   | (with_reducible exact spec_SavedBy.mono _ _ _ _)
   | (with_reducible exact spec_WantsOn.mono _ _ _ _)
   | (with_reducible exact LeO.refl _)
   | (with_reducible exact LeO.none _)
   | (with_reducible refine LeO.ite ?_ ?_)
   | (with_reducible refine LeO.bind ?_ (fun _ => ?_))
  ·intro y0
   unfold laws_FnPruned.j5
   repeat' first
   | (with_reducible exact ih0 _ _ _ _ _ _ _ _ _)
   | (with_reducible exact ih1 _)
   | (with_reducible exact ih2 _ _ _ _ _ _ _)
   | (with_reducible exact ih3 _ _ _ _ _ _ _ _ _)
   | (with_reducible exact ih4 _ _ _ _ _ _)
   | (with_reducible exact ih5 _ _ _ _ _ _ _ _ _ _ _)
   | (with_reducible exact impl_BehindOf.mono _ _ _ _)
   | (with_reducible exact impl_ReachedBy.mono _ _ _)
   | (with_reducible exact impl_SavedBy.mono _ _ _ _)
   | (with_reducible exact impl_SpreadOn.mono _ _ _)
   | (with_reducible exact impl_WantsOn.mono _ _ _ _)
   | (with_reducible exact laws_has.mono _ _ _)
   | (with_reducible exact laws_sameHops.mono _ _ _)
   | (with_reducible exact laws_sameInts.mono _ _ _)
   | (with_reducible exact spec_DrawReachedBy.mono _ _)
   | (with_reducible exact spec_DrawWantsOn.mono _ _)
   | (with_reducible exact spec_ReachedBy.mono _ _ _)
   | (with_reducible exact spec_SavedBy.mono _ _ _ _)
   | (with_reducible exact spec_WantsOn.mono _ _ _ _)
   | (with_reducible exact LeO.refl _)
   | (with_reducible exact LeO.none _)
   | (with_reducible refine LeO.ite ?_ ?_)
   | (with_reducible refine LeO.bind ?_ (fun _ => ?_))
  ·intro y0 y1 y2 y3 y4 y5 y6
   unfold laws_FnPruned.j1
   repeat' first
   | (with_reducible exact ih0 _ _ _ _ _ _ _ _ _)
   | (with_reducible exact ih1 _)
   | (with_reducible exact ih2 _ _ _ _ _ _ _)
   | (with_reducible exact ih3 _ _ _ _ _ _ _ _ _)
   | (with_reducible exact ih4 _ _ _ _ _ _)
   | (with_reducible exact ih5 _ _ _ _ _ _ _ _ _ _ _)
   | (with_reducible exact impl_BehindOf.mono _ _ _ _)
   | (with_reducible exact impl_ReachedBy.mono _ _ _)
   | (with_reducible exact impl_SavedBy.mono _ _ _ _)
   | (with_reducible exact impl_SpreadOn.mono _ _ _)
   | (with_reducible exact impl_WantsOn.mono _ _ _ _)
   | (with_reducible exact laws_has.mono _ _ _)
   | (with_reducible exact laws_sameHops.mono _ _ _)
   | (with_reducible exact laws_sameInts.mono _ _ _)
   | (with_reducible exact spec_DrawReachedBy.mono _ _)
   | (with_reducible exact spec_DrawWantsOn.mono _ _)
   | (with_reducible exact spec_ReachedBy.mono _ _ _)
   | (with_reducible exact spec_SavedBy.mono _ _ _ _)
   | (with_reducible exact spec_WantsOn.mono _ _ _ _)
   | (with_reducible exact LeO.refl _)
   | (with_reducible exact LeO.none _)
   | (with_reducible refine LeO.ite ?_ ?_)
   | (with_reducible refine LeO.bind ?_ (fun _ => ?_))
  ·intro y0 y1 y2 y3 y4 y5 y6 y7 y8
   unfold laws_FnPruned.l0
   repeat' first
   | (with_reducible exact ih0 _ _ _ _ _ _ _ _ _)
   | (with_reducible exact ih1 _)
   | (with_reducible exact ih2 _ _ _ _ _ _ _)
   | (with_reducible exact ih3 _ _ _ _ _ _ _ _ _)
   | (with_reducible exact ih4 _ _ _ _ _ _)
   | (with_reducible exact ih5 _ _ _ _ _ _ _ _ _ _ _)
   | (with_reducible exact impl_BehindOf.mono _ _ _ _)
   | (with_reducible exact impl_ReachedBy.mono _ _ _)
   | (with_reducible exact impl_SavedBy.mono _ _ _ _)
   | (with_reducible exact impl_SpreadOn.mono _ _ _)
   | (with_reducible exact impl_WantsOn.mono _ _ _ _)
   | (with_reducible exact laws_has.mono _ _ _)
   | (with_reducible exact laws_sameHops.mono _ _ _)
   | (with_reducible exact laws_sameInts.mono _ _ _)
   | (with_reducible exact spec_DrawReachedBy.mono _ _)
   | (with_reducible exact spec_DrawWantsOn.mono _ _)
   | (with_reducible exact spec_ReachedBy.mono _ _ _)
   | (with_reducible exact spec_SavedBy.mono _ _ _ _)
   | (with_reducible exact spec_WantsOn.mono _ _ _ _)
   | (with_reducible exact LeO.refl _)
   | (with_reducible exact LeO.none _)
   | (with_reducible refine LeO.ite ?_ ?_)
   | (with_reducible refine LeO.bind ?_ (fun _ => ?_))
  ·intro y0 y1 y2 y3 y4 y5
   unfold laws_FnPruned.l1
   repeat' first
   | (with_reducible exact ih0 _ _ _ _ _ _ _ _ _)
   | (with_reducible exact ih1 _)
   | (with_reducible exact ih2 _ _ _ _ _ _ _)
   | (with_reducible exact ih3 _ _ _ _ _ _ _ _ _)
   | (with_reducible exact ih4 _ _ _ _ _ _)
   | (with_reducible exact ih5 _ _ _ _ _ _ _ _ _ _ _)
   | (with_reducible exact impl_BehindOf.mono _ _ _ _)
   | (with_reducible exact impl_ReachedBy.mono _ _ _)
   | (with_reducible exact impl_SavedBy.mono _ _ _ _)
   | (with_reducible exact impl_SpreadOn.mono _ _ _)
   | (with_reducible exact impl_WantsOn.mono _ _ _ _)
   | (with_reducible exact laws_has.mono _ _ _)
   | (with_reducible exact laws_sameHops.mono _ _ _)
   | (with_reducible exact laws_sameInts.mono _ _ _)
   | (with_reducible exact spec_DrawReachedBy.mono _ _)
   | (with_reducible exact spec_DrawWantsOn.mono _ _)
   | (with_reducible exact spec_ReachedBy.mono _ _ _)
   | (with_reducible exact spec_SavedBy.mono _ _ _ _)
   | (with_reducible exact spec_WantsOn.mono _ _ _ _)
   | (with_reducible exact LeO.refl _)
   | (with_reducible exact LeO.none _)
   | (with_reducible refine LeO.ite ?_ ?_)
   | (with_reducible refine LeO.bind ?_ (fun _ => ?_))
  ·intro y0 y1 y2 y3 y4 y5 y6 y7 y8 y9 y10
   unfold laws_FnPruned.l2
   repeat' first
   | (with_reducible exact ih0 _ _ _ _ _ _ _ _ _)
   | (with_reducible exact ih1 _)
   | (with_reducible exact ih2 _ _ _ _ _ _ _)
   | (with_reducible exact ih3 _ _ _ _ _ _ _ _ _)
   | (with_reducible exact ih4 _ _ _ _ _ _)
   | (with_reducible exact ih5 _ _ _ _ _ _ _ _ _ _ _)
   | (with_reducible exact impl_BehindOf.mono _ _ _ _)
   | (with_reducible exact impl_ReachedBy.mono _ _ _)
   | (with_reducible exact impl_SavedBy.mono _ _ _ _)
   | (with_reducible exact impl_SpreadOn.mono _ _ _)
   | (with_reducible exact impl_WantsOn.mono _ _ _ _)
   | (with_reducible exact laws_has.mono _ _ _)
   | (with_reducible exact laws_sameHops.mono _ _ _)
   | (with_reducible exact laws_sameInts.mono _ _ _)
   | (with_reducible exact spec_DrawReachedBy.mono _ _)
   | (with_reducible exact spec_DrawWantsOn.mono _ _)
   | (with_reducible exact spec_ReachedBy.mono _ _ _)
   | (with_reducible exact spec_SavedBy.mono _ _ _ _)
   | (with_reducible exact spec_WantsOn.mono _ _ _ _)
   | (with_reducible exact LeO.refl _)
   | (with_reducible exact LeO.none _)
   | (with_reducible refine LeO.ite ?_ ?_)
   | (with_reducible refine LeO.bind ?_ (fun _ => ?_))
theorem laws_FnPruned.mono : ∀ a0 a1 k, LeO (laws_FnPruned.f k a0 a1) (laws_FnPruned.f (k + 1) a0 a1) := by
 intro a0 a1 k
 obtain ⟨ih0, ih1, ih2, ih3, ih4, ih5⟩ := laws_FnPruned.mono_l k
 unfold laws_FnPruned.f
 repeat' first
   | (with_reducible exact ih0 _ _ _ _ _ _ _ _ _)
   | (with_reducible exact ih1 _)
   | (with_reducible exact ih2 _ _ _ _ _ _ _)
   | (with_reducible exact ih3 _ _ _ _ _ _ _ _ _)
   | (with_reducible exact ih4 _ _ _ _ _ _)
   | (with_reducible exact ih5 _ _ _ _ _ _ _ _ _ _ _)
   | (with_reducible exact impl_BehindOf.mono _ _ _ _)
   | (with_reducible exact impl_ReachedBy.mono _ _ _)
   | (with_reducible exact impl_SavedBy.mono _ _ _ _)
   | (with_reducible exact impl_SpreadOn.mono _ _ _)
   | (with_reducible exact impl_WantsOn.mono _ _ _ _)
   | (with_reducible exact laws_has.mono _ _ _)
   | (with_reducible exact laws_sameHops.mono _ _ _)
   | (with_reducible exact laws_sameInts.mono _ _ _)
   | (with_reducible exact spec_DrawReachedBy.mono _ _)
   | (with_reducible exact spec_DrawWantsOn.mono _ _)
   | (with_reducible exact spec_ReachedBy.mono _ _ _)
   | (with_reducible exact spec_SavedBy.mono _ _ _ _)
   | (with_reducible exact spec_WantsOn.mono _ _ _ _)
   | (with_reducible exact LeO.refl _)
   | (with_reducible exact LeO.none _)
   | (with_reducible refine LeO.ite ?_ ?_)
   | (with_reducible refine LeO.bind ?_ (fun _ => ?_))
set_option maxHeartbeats 8000000 in
set_option maxRecDepth 100000 in
theorem laws_FnPruned.calls (k : Nat) (A0 : Option Addr) (c0 : Nat) (l0 : List Int) (A1 : Option Addr) (c1 : Nat) (l1 : List Int) (r : Bool) (w : World) (hr0 : Kd.C (Kd.int .u8) w A0 l0.length l0) (hc0 : l0.length ≤ c0) (hr1 : Kd.C (Kd.int .u8) w A1 l1.length l1) (hc1 : l1.length ≤ c1) (h : laws_FnPruned.f k l0 l1 = some r) :
  Calls Try.prog 7 #[.slice A0 l0.length c0, .slice A1 l1.length c1] w fun e w' => e = .returned (.bool r) ∧ Below w.heap.size w w' := by
 have hu76 := Try.underlying76
 have HR0 := Aside0.mk hr0
 have HC0 := Aside0.mk hc0
 clear hr0 hc0
 have HR1 := Aside0.mk hr1
 have HC1 := Aside0.mk hc1
 clear hr1 hc1
 have HB := Aside0.mk (Below.refl w.heap.size w)
 have H : (if (wrap64 ((l0.length : Int) + (l1.length : Int))) > 1048576 then (some true) else ((spec_DrawWantsOn.f k l0).bind fun bt1711 => ((impl_WantsOn.f k bt1711.1 bt1711.2.1 bt1711.2.2).bind fun bt1718 => ((spec_WantsOn.f k bt1711.1 bt1711.2.1 bt1711.2.2).bind fun bt1722 => ((impl_SavedBy.f k bt1711.1 bt1711.2.1 bt1711.2.2).bind fun bt1726 => ((spec_SavedBy.f k bt1711.1 bt1711.2.1 bt1711.2.2).bind fun bt1728 => (if (bt1718.2 != bt1722.2) = true then (laws_FnPruned.j0 k l1 bt1711.1 bt1711.2.1 bt1711.2.2 bt1718.1 bt1718.2 bt1726.1 bt1726.2 true) else ((laws_sameHops.f k bt1718.1 bt1722.1).bind fun t1730 => (if t1730 = true then (if (bt1726.2 != bt1728.2) = true then (laws_FnPruned.j0 k l1 bt1711.1 bt1711.2.1 bt1711.2.2 bt1718.1 bt1718.2 bt1726.1 bt1726.2 true) else (laws_FnPruned.j0 k l1 bt1711.1 bt1711.2.1 bt1711.2.2 bt1718.1 bt1718.2 bt1726.1 bt1726.2 (bt1726.1 != bt1728.1))) else (laws_FnPruned.j0 k l1 bt1711.1 bt1711.2.1 bt1711.2.2 bt1718.1 bt1718.2 bt1726.1 bt1726.2 true)))))))))) = some r := h
 clear h
 by_cases c3 : (wrap64 ((l0.length : Int) + (l1.length : Int))) > 1048576
 ·rw [if_pos c3] at H
  have c3b0 : decide (1048576 < (wrap64 ((l0.length : Int) + (l1.length : Int)))) = true := decide_eq_true c3
  clear c3
  obtain rfl := Option.some.inj H
  as_aux_lemma =>
   go_enter Try.func7, Try.ntmps7
   go_wp2
   go_ret
   exact ⟨by first | rfl | (simp [errW_none, errW_some] <;> rfl) | (simp [*, errW_none, errW_some] <;> rfl), by repeat (first | (with_reducible first | exact HB.out | apply below_alloc | apply pw_below_drewN | apply below_drew1) | exact HB.out)⟩
 rw [if_neg c3] at H
 have c3b0 : decide (1048576 < (wrap64 ((l0.length : Int) + (l1.length : Int)))) = false := decide_eq_false c3
 clear c3
 replace H := Option.bind_eq_some_iff.mp H
 obtain ⟨⟨t1711, t1712, t1713⟩, A40, H⟩ := H
 replace H : ((impl_WantsOn.f k t1711 t1712 t1713).bind fun bt1718 => ((spec_WantsOn.f k t1711 t1712 t1713).bind fun bt1722 => ((impl_SavedBy.f k t1711 t1712 t1713).bind fun bt1726 => ((spec_SavedBy.f k t1711 t1712 t1713).bind fun bt1728 => (if (bt1718.2 != bt1722.2) = true then (laws_FnPruned.j0 k l1 t1711 t1712 t1713 bt1718.1 bt1718.2 bt1726.1 bt1726.2 true) else ((laws_sameHops.f k bt1718.1 bt1722.1).bind fun t1730 => (if t1730 = true then (if (bt1726.2 != bt1728.2) = true then (laws_FnPruned.j0 k l1 t1711 t1712 t1713 bt1718.1 bt1718.2 bt1726.1 bt1726.2 true) else (laws_FnPruned.j0 k l1 t1711 t1712 t1713 bt1718.1 bt1718.2 bt1726.1 bt1726.2 (bt1726.1 != bt1728.1))) else (laws_FnPruned.j0 k l1 t1711 t1712 t1713 bt1718.1 bt1718.2 bt1726.1 bt1726.2 true)))))))) = some r := H
 have A4 := Aside0.mk A40
 clear A40
 replace H := Option.bind_eq_some_iff.mp H
 obtain ⟨⟨t1718, t1719⟩, A50, H⟩ := H
 replace H : ((spec_WantsOn.f k t1711 t1712 t1713).bind fun bt1722 => ((impl_SavedBy.f k t1711 t1712 t1713).bind fun bt1726 => ((spec_SavedBy.f k t1711 t1712 t1713).bind fun bt1728 => (if (t1719 != bt1722.2) = true then (laws_FnPruned.j0 k l1 t1711 t1712 t1713 t1718 t1719 bt1726.1 bt1726.2 true) else ((laws_sameHops.f k t1718 bt1722.1).bind fun t1730 => (if t1730 = true then (if (bt1726.2 != bt1728.2) = true then (laws_FnPruned.j0 k l1 t1711 t1712 t1713 t1718 t1719 bt1726.1 bt1726.2 true) else (laws_FnPruned.j0 k l1 t1711 t1712 t1713 t1718 t1719 bt1726.1 bt1726.2 (bt1726.1 != bt1728.1))) else (laws_FnPruned.j0 k l1 t1711 t1712 t1713 t1718 t1719 bt1726.1 bt1726.2 true))))))) = some r := H
 have A5 := Aside0.mk A50
 clear A50
 replace H := Option.bind_eq_some_iff.mp H
 obtain ⟨⟨t1722, t1723⟩, A60, H⟩ := H
 replace H : ((impl_SavedBy.f k t1711 t1712 t1713).bind fun bt1726 => ((spec_SavedBy.f k t1711 t1712 t1713).bind fun bt1728 => (if (t1719 != t1723) = true then (laws_FnPruned.j0 k l1 t1711 t1712 t1713 t1718 t1719 bt1726.1 bt1726.2 true) else ((laws_sameHops.f k t1718 t1722).bind fun t1730 => (if t1730 = true then (if (bt1726.2 != bt1728.2) = true then (laws_FnPruned.j0 k l1 t1711 t1712 t1713 t1718 t1719 bt1726.1 bt1726.2 true) else (laws_FnPruned.j0 k l1 t1711 t1712 t1713 t1718 t1719 bt1726.1 bt1726.2 (bt1726.1 != bt1728.1))) else (laws_FnPruned.j0 k l1 t1711 t1712 t1713 t1718 t1719 bt1726.1 bt1726.2 true)))))) = some r := H
 have A6 := Aside0.mk A60
 clear A60
 replace H := Option.bind_eq_some_iff.mp H
 obtain ⟨⟨t1726, t1727⟩, A70, H⟩ := H
 replace H : ((spec_SavedBy.f k t1711 t1712 t1713).bind fun bt1728 => (if (t1719 != t1723) = true then (laws_FnPruned.j0 k l1 t1711 t1712 t1713 t1718 t1719 t1726 t1727 true) else ((laws_sameHops.f k t1718 t1722).bind fun t1730 => (if t1730 = true then (if (t1727 != bt1728.2) = true then (laws_FnPruned.j0 k l1 t1711 t1712 t1713 t1718 t1719 t1726 t1727 true) else (laws_FnPruned.j0 k l1 t1711 t1712 t1713 t1718 t1719 t1726 t1727 (t1726 != bt1728.1))) else (laws_FnPruned.j0 k l1 t1711 t1712 t1713 t1718 t1719 t1726 t1727 true))))) = some r := H
 have A7 := Aside0.mk A70
 clear A70
 replace H := Option.bind_eq_some_iff.mp H
 obtain ⟨⟨t1728, t1729⟩, A80, H⟩ := H
 replace H : (if (t1719 != t1723) = true then (laws_FnPruned.j0 k l1 t1711 t1712 t1713 t1718 t1719 t1726 t1727 true) else ((laws_sameHops.f k t1718 t1722).bind fun t1730 => (if t1730 = true then (if (t1727 != t1729) = true then (laws_FnPruned.j0 k l1 t1711 t1712 t1713 t1718 t1719 t1726 t1727 true) else (laws_FnPruned.j0 k l1 t1711 t1712 t1713 t1718 t1719 t1726 t1727 (t1726 != t1728))) else (laws_FnPruned.j0 k l1 t1711 t1712 t1713 t1718 t1719 t1726 t1727 true)))) = some r := H
 have A8 := Aside0.mk A80
 clear A80
 have HC9 := Aside0.mk H
 clear H
 as_aux_lemma =>
  go_enter Try.func7, Try.ntmps7
  as_aux_lemma =>
   go_upto_region 8 with (first | ((with_reducible refine gate_callee (f := 52) rfl ?_); refine goesL_ (some 45) rfl rfl Try.func52 (by kernel_rfl) rfl #[.slice A0 l0.length c0] rfl tm_ ?_; (with_reducible refine (spec_DrawWantsOn.calls k _ _ l0 t1711 t1712 t1713 _ ?side1 ?side2 A4.out).mono ?_); (case side1 => exact ca HR0.out); (case side2 => exact HC0.out); rintro e w10 ⟨v1714, v1716, rfl, ho0, ho1, hb⟩; refine ⟨_, rfl, ?_⟩; have HO1715 := Aside0.mk (Kd.R_lower ho0 (below_size (hB HB))); have HO1717 := Aside0.mk (Kd.R_lower ho1 (below_size (hB HB))); replace HB := bst_ HB hb; clear hb ho0 ho1; obtain ⟨Ao11, co11, eo11⟩ := Kd.R_slice HO1715.out; subst eo11; obtain ⟨Ao12, co12, eo12⟩ := Kd.R_slice HO1717.out; subst eo12) | ((with_reducible refine gate_callee (f := 11) rfl ?_); refine goesL_ (some 53) rfl rfl Try.func11 (by kernel_rfl) rfl #[.slice Ao11 t1711.length co11, .int .i64 t1712, .slice Ao12 t1713.length co12] rfl tm_ ?_; (with_reducible refine (impl_WantsOn.calls k _ _ t1711 t1712 _ _ t1713 t1718 t1719 _ ?side1 ?side2 ?side3 ?side4 A5.out).mono ?_); (case side1 => exact ca (Kd.R_reads' HO1715.out).2.2); (case side2 => exact (Kd.R_reads' HO1715.out).2.1); (case side3 => exact ca (Kd.R_reads' HO1717.out).2.2); (case side4 => exact (Kd.R_reads' HO1717.out).2.1); rintro e w13 ⟨v1720, rfl, ho0, hb⟩; refine ⟨_, rfl, ?_⟩; have HO1721 := Aside0.mk (Kd.R_lower ho0 (below_size (hB HB))); replace HO1715 := rb_ HO1715 hb; replace HO1717 := rb_ HO1717 hb; replace HB := bst_ HB hb; clear hb ho0) | ((with_reducible refine gate_callee (f := 9) rfl ?_); refine goesL_ (some 60) rfl rfl Try.func9 (by kernel_rfl) rfl #[.slice Ao11 t1711.length co11, .int .i64 t1712, .slice Ao12 t1713.length co12] rfl tm_ ?_; (with_reducible refine (spec_WantsOn.calls k _ _ t1711 t1712 _ _ t1713 t1722 t1723 _ ?side1 ?side2 ?side3 ?side4 A6.out).mono ?_); (case side1 => exact ca (Kd.R_reads' HO1715.out).2.2); (case side2 => exact (Kd.R_reads' HO1715.out).2.1); (case side3 => exact ca (Kd.R_reads' HO1717.out).2.2); (case side4 => exact (Kd.R_reads' HO1717.out).2.1); rintro e w14 ⟨v1724, rfl, ho0, hb⟩; refine ⟨_, rfl, ?_⟩; have HO1725 := Aside0.mk (Kd.R_lower (Kd.R_new' ho0 (rl_ HO1721)) (below_size (hB HB))); replace HO1715 := rb_ HO1715 hb; replace HO1717 := rb_ HO1717 hb; replace HO1721 := re_ HO1721 ho0 hb; replace HB := bst_ HB hb; clear hb ho0) | ((with_reducible refine gate_callee (f := 53) rfl ?_); refine goesL_ (some 67) rfl rfl Try.func53 (by kernel_rfl) rfl #[.slice Ao11 t1711.length co11, .int .i64 t1712, .slice Ao12 t1713.length co12] rfl tm_ ?_; (with_reducible refine (impl_SavedBy.calls k _ _ t1711 t1712 _ _ t1713 t1726 t1727 _ ?side1 ?side2 ?side3 ?side4 A7.out).mono ?_); (case side1 => exact ca (Kd.R_reads' HO1715.out).2.2); (case side2 => exact (Kd.R_reads' HO1715.out).2.1); (case side3 => exact ca (Kd.R_reads' HO1717.out).2.2); (case side4 => exact (Kd.R_reads' HO1717.out).2.1); rintro e w15 ⟨rfl, hb⟩; refine ⟨_, rfl, ?_⟩; replace HO1715 := rb_ HO1715 hb; replace HO1717 := rb_ HO1717 hb; replace HO1721 := rb_ HO1721 hb; replace HO1725 := rb_ HO1725 hb; replace HB := bst_ HB hb; clear hb) | ((with_reducible refine gate_callee (f := 54) rfl ?_); refine goesL_ (some 74) rfl rfl Try.func54 (by kernel_rfl) rfl #[.slice Ao11 t1711.length co11, .int .i64 t1712, .slice Ao12 t1713.length co12] rfl tm_ ?_; (with_reducible refine (spec_SavedBy.calls k _ _ t1711 t1712 _ _ t1713 t1728 t1729 _ ?side1 ?side2 ?side3 ?side4 A8.out).mono ?_); (case side1 => exact ca (Kd.R_reads' HO1715.out).2.2); (case side2 => exact (Kd.R_reads' HO1715.out).2.1); (case side3 => exact ca (Kd.R_reads' HO1717.out).2.2); (case side4 => exact (Kd.R_reads' HO1717.out).2.1); rintro e w16 ⟨rfl, hb⟩; refine ⟨_, rfl, ?_⟩; replace HO1715 := rb_ HO1715 hb; replace HO1717 := rb_ HO1717 hb; replace HO1721 := rb_ HO1721 hb; replace HO1725 := rb_ HO1725 hb; replace HB := bst_ HB hb; clear hb))
   (try simp only [Act.put, List.setIfInBounds_toArray, List.set_cons_zero, List.set_cons_succ])
   go_cut [95] (fun v95 wc => ∃ (kq : Nat) (x95_8 : Bool), v95 = .bool x95_8 ∧ Aside0 (laws_FnPruned.j0 kq l1 t1711 t1712 t1713 t1718 t1719 t1726 t1727 x95_8 = some r) ∧ Aside0 (kq ≤ k) ∧ Aside0 (Kd.R (Kd.int .i64) 3 wc w.heap.size (fun k_ => no_ (.slice Ao12 t1713.length co12) k_) (.slice Ao11 t1711.length co11) t1711) ∧ Aside0 (Kd.R (Kd.int .i64) 3 wc w.heap.size (fun k_ => no_ (.slice Ao11 t1711.length co11) k_) (.slice Ao12 t1713.length co12) t1713) ∧ Aside0 (Kd.R k76 76 wc w.heap.size (fun _ => True) v1720 t1718) ∧ Aside0 (Below w.heap.size w wc))
   case first =>
    as_aux_lemma =>
     have H := HC9.out
     clear HC9
     by_cases c17 : (t1719 != t1723) = true
     ·rw [if_pos c17] at H
      have c17b0 : (t1719 != t1723) = true := c17
      (try (have c17b1 : decide (t1719 = t1723) = false := by simpa using c17))
      (try (have c17b2 : (t1719 == t1723) = false := by simpa using c17))
      (try (have c17b3 : ¬ (t1719 = t1723) := by simpa using c17))
      clear c17
      (first | rw [c17b0] | (simp only [i64_w, i32_w]; rw [c17b0]) | skip)
      have H' := Aside0.mk H
      clear H
      go_wp2
      go_meet
      case rel => exact ⟨_, (true), (by first | rfl | (simp; done) | (simp [*]; done)), H', ⟨by first | omega | exact Nat.le_refl _⟩, ⟨ra HO1715.out⟩, ⟨ra HO1717.out⟩, rm_ HO1721 (fun _ hk => trivial), ⟨hB HB⟩⟩
     rw [if_neg c17] at H
     have c17b0 : (t1719 != t1723) = false := by simpa using c17
     (try (have c17b1 : decide (t1719 = t1723) = true := by simpa using c17))
     (try (have c17b2 : (t1719 == t1723) = true := by simpa using c17))
     clear c17
     (first | rw [c17b0] | (simp only [i64_w, i32_w]; rw [c17b0]) | skip)
     replace H := Option.bind_eq_some_iff.mp H
     obtain ⟨t1730, A180, H⟩ := H
     replace H : (if t1730 = true then (if (t1727 != t1729) = true then (laws_FnPruned.j0 k l1 t1711 t1712 t1713 t1718 t1719 t1726 t1727 true) else (laws_FnPruned.j0 k l1 t1711 t1712 t1713 t1718 t1719 t1726 t1727 (t1726 != t1728))) else (laws_FnPruned.j0 k l1 t1711 t1712 t1713 t1718 t1719 t1726 t1727 true)) = some r := H
     have A18 := Aside0.mk A180
     clear A180
     by_cases c19 : t1730 = true
     rotate_left
     ·replace c19 := Bool.eq_false_iff.mpr c19
      subst c19
      rw [if_neg (show ¬ (false = true) by decide)] at H
      have H' := Aside0.mk H
      clear H
      obtain ⟨Ao25, co25, eo25⟩ := Kd.R_slice HO1721.out
      subst eo25
      obtain ⟨Ao26, co26, eo26⟩ := Kd.R_slice HO1725.out
      subst eo26
      as_aux_lemma =>
       go_wp2_with (first | (go_at_call 55; (with_reducible refine (laws_sameHops.calls k _ _ t1718 _ _ t1722 false _ ?side1 ?side2 ?side3 ?side4 A18.out).mono ?_); (case side1 => exact ca (Kd.R_reads' HO1721.out).2.2); (case side2 => exact (Kd.R_reads' HO1721.out).2.1); (case side3 => exact ca (Kd.R_reads' HO1725.out).2.2); (case side4 => exact (Kd.R_reads' HO1725.out).2.1); rintro e w' ⟨rfl, ⟨nd, rfl⟩⟩))
       go_meet
       case rel => exact ⟨_, (true), (by first | rfl | (simp; done) | (simp [*]; done)), H', ⟨by first | omega | exact Nat.le_refl _⟩, ⟨ra HO1715.out⟩, ⟨ra HO1717.out⟩, rm_ HO1721 (fun _ hk => trivial), ⟨hB HB⟩⟩
     subst c19
     rw [if_pos rfl] at H
     by_cases c20 : (t1727 != t1729) = true
     rotate_left
     ·rw [if_neg c20] at H
      have c20b0 : (t1727 != t1729) = false := by simpa using c20
      (try (have c20b1 : decide (t1727 = t1729) = true := by simpa using c20))
      (try (have c20b2 : (t1727 == t1729) = true := by simpa using c20))
      clear c20
      have H' := Aside0.mk H
      clear H
      obtain ⟨Ao23, co23, eo23⟩ := Kd.R_slice HO1721.out
      subst eo23
      obtain ⟨Ao24, co24, eo24⟩ := Kd.R_slice HO1725.out
      subst eo24
      as_aux_lemma =>
       go_wp2_with (first | (go_at_call 55; (with_reducible refine (laws_sameHops.calls k _ _ t1718 _ _ t1722 true _ ?side1 ?side2 ?side3 ?side4 A18.out).mono ?_); (case side1 => exact ca (Kd.R_reads' HO1721.out).2.2); (case side2 => exact (Kd.R_reads' HO1721.out).2.1); (case side3 => exact ca (Kd.R_reads' HO1725.out).2.2); (case side4 => exact (Kd.R_reads' HO1725.out).2.1); rintro e w' ⟨rfl, ⟨nd, rfl⟩⟩))
       go_meet
       case rel => exact ⟨_, ((t1726 != t1728)), (by first | rfl | (simp; done) | (simp [*]; done)), H', ⟨by first | omega | exact Nat.le_refl _⟩, ⟨ra HO1715.out⟩, ⟨ra HO1717.out⟩, rm_ HO1721 (fun _ hk => trivial), ⟨hB HB⟩⟩
     rw [if_pos c20] at H
     have c20b0 : (t1727 != t1729) = true := c20
     (try (have c20b1 : decide (t1727 = t1729) = false := by simpa using c20))
     (try (have c20b2 : (t1727 == t1729) = false := by simpa using c20))
     (try (have c20b3 : ¬ (t1727 = t1729) := by simpa using c20))
     clear c20
     have H' := Aside0.mk H
     clear H
     obtain ⟨Ao21, co21, eo21⟩ := Kd.R_slice HO1721.out
     subst eo21
     obtain ⟨Ao22, co22, eo22⟩ := Kd.R_slice HO1725.out
     subst eo22
     as_aux_lemma =>
      go_wp2_with (first | (go_at_call 55; (with_reducible refine (laws_sameHops.calls k _ _ t1718 _ _ t1722 true _ ?side1 ?side2 ?side3 ?side4 A18.out).mono ?_); (case side1 => exact ca (Kd.R_reads' HO1721.out).2.2); (case side2 => exact (Kd.R_reads' HO1721.out).2.1); (case side3 => exact ca (Kd.R_reads' HO1725.out).2.2); (case side4 => exact (Kd.R_reads' HO1725.out).2.1); rintro e w' ⟨rfl, ⟨nd, rfl⟩⟩))
      go_meet
      case rel => exact ⟨_, (true), (by first | rfl | (simp; done) | (simp [*]; done)), H', ⟨by first | omega | exact Nat.le_refl _⟩, ⟨ra HO1715.out⟩, ⟨ra HO1717.out⟩, rm_ HO1721 (fun _ hk => trivial), ⟨hB HB⟩⟩
   case rest =>
    as_aux_lemma =>
     clear HC9
     try clear c1
     try clear c3
     try clear c3b0
     obtain ⟨kq, x95_8, rfl, HA, HJ8, HO_5, HO_7, HO_8, HB⟩ := hcut
     cases kq with
     | zero => exact absurd HA.out (by simp [laws_FnPruned.j0])
     | succ kj8 =>
      have H := HA.out
      clear HA
      simp only [laws_FnPruned.j0] at H
      by_cases c27 : x95_8 = true
      ·subst c27
       rw [if_pos rfl] at H
       obtain rfl := Option.some.inj H
       go_wp2
       go_ret
       exact ⟨by first | rfl | (simp [errW_none, errW_some] <;> rfl) | (simp [*, errW_none, errW_some] <;> rfl), by repeat (first | (with_reducible first | exact HB.out | apply below_alloc | apply pw_below_drewN | apply below_drew1) | exact HB.out)⟩
      replace c27 := Bool.eq_false_iff.mpr c27
      subst c27
      rw [if_neg (show ¬ (false = true) by decide)] at H
      have HC28 := Aside0.mk H
      clear H
      go_upto_if 96 with (fail)
      go_cut [] (fun wc => ∃ (kq : Nat), Aside0 (laws_FnPruned.j5 kq l1 = some r) ∧ Aside0 (kq ≤ kj8) ∧ Aside0 (Below w.heap.size w wc))
      case first =>
       as_aux_lemma =>
        have H := HC28.out
        clear HC28
        by_cases c29 : t1719 = true
        rotate_left
        ·replace c29 := Bool.eq_false_iff.mpr c29
         subst c29
         rw [if_neg (show ¬ (false = true) by decide)] at H
         have H' := Aside0.mk H
         clear H
         go_wp2
         go_meet
         case rel => exact ⟨_, H', ⟨by have := HJ8.out; first | omega | exact Nat.le_refl _⟩, ⟨hB HB⟩⟩
        subst c29
        rw [if_pos rfl] at H
        replace H := Option.bind_eq_some_iff.mp H
        obtain ⟨⟨t1731, t1732⟩, A300, H⟩ := H
        replace H : ((impl_ReachedBy.f kj8 t1718 t1712).bind fun bt1735 => ((impl_ReachedBy.f kj8 t1731 t1712).bind fun bt1739 => (if t1727 = true then (if t1732 = true then (if t1726 = (wrap64 ((t1731.length : Int) - (t1718.length : Int))) then (if bt1735.2 = true then (if bt1739.2 = true then (laws_FnPruned.j1 kj8 l1 t1711 t1713 t1718 bt1735.1 bt1739.1 ((bt1735.1.length : Int) != (wrap64 ((t1718.length : Int) + 1)))) else (laws_FnPruned.j1 kj8 l1 t1711 t1713 t1718 bt1735.1 bt1739.1 true)) else (laws_FnPruned.j1 kj8 l1 t1711 t1713 t1718 bt1735.1 bt1739.1 true)) else (laws_FnPruned.j1 kj8 l1 t1711 t1713 t1718 bt1735.1 bt1739.1 true)) else (laws_FnPruned.j1 kj8 l1 t1711 t1713 t1718 bt1735.1 bt1739.1 true)) else (laws_FnPruned.j1 kj8 l1 t1711 t1713 t1718 bt1735.1 bt1739.1 true)))) = some r := H
        have A30 := Aside0.mk A300
        clear A300
        replace H := Option.bind_eq_some_iff.mp H
        obtain ⟨⟨t1735, t1736⟩, A310, H⟩ := H
        replace H : ((impl_ReachedBy.f kj8 t1731 t1712).bind fun bt1739 => (if t1727 = true then (if t1732 = true then (if t1726 = (wrap64 ((t1731.length : Int) - (t1718.length : Int))) then (if t1736 = true then (if bt1739.2 = true then (laws_FnPruned.j1 kj8 l1 t1711 t1713 t1718 t1735 bt1739.1 ((t1735.length : Int) != (wrap64 ((t1718.length : Int) + 1)))) else (laws_FnPruned.j1 kj8 l1 t1711 t1713 t1718 t1735 bt1739.1 true)) else (laws_FnPruned.j1 kj8 l1 t1711 t1713 t1718 t1735 bt1739.1 true)) else (laws_FnPruned.j1 kj8 l1 t1711 t1713 t1718 t1735 bt1739.1 true)) else (laws_FnPruned.j1 kj8 l1 t1711 t1713 t1718 t1735 bt1739.1 true)) else (laws_FnPruned.j1 kj8 l1 t1711 t1713 t1718 t1735 bt1739.1 true))) = some r := H
        have A31 := Aside0.mk A310
        clear A310
        replace H := Option.bind_eq_some_iff.mp H
        obtain ⟨⟨t1739, t1740⟩, A320, H⟩ := H
        replace H : (if t1727 = true then (if t1732 = true then (if t1726 = (wrap64 ((t1731.length : Int) - (t1718.length : Int))) then (if t1736 = true then (if t1740 = true then (laws_FnPruned.j1 kj8 l1 t1711 t1713 t1718 t1735 t1739 ((t1735.length : Int) != (wrap64 ((t1718.length : Int) + 1)))) else (laws_FnPruned.j1 kj8 l1 t1711 t1713 t1718 t1735 t1739 true)) else (laws_FnPruned.j1 kj8 l1 t1711 t1713 t1718 t1735 t1739 true)) else (laws_FnPruned.j1 kj8 l1 t1711 t1713 t1718 t1735 t1739 true)) else (laws_FnPruned.j1 kj8 l1 t1711 t1713 t1718 t1735 t1739 true)) else (laws_FnPruned.j1 kj8 l1 t1711 t1713 t1718 t1735 t1739 true)) = some r := H
        have A32 := Aside0.mk A320
        clear A320
        have HC33 := Aside0.mk H
        clear H
        as_aux_lemma =>
         go_upto_region 14 with (first | ((with_reducible refine gate_callee (f := 42) rfl ?_); refine goesL_ (some 100) rfl rfl Try.func42 (by kernel_rfl) rfl #[.slice Ao11 t1711.length co11, .int .i64 t1712] rfl tm_ ?_; (with_reducible refine (impl_SpreadOn.calls kj8 _ _ t1711 t1712 t1731 t1732 _ ?side1 ?side2 A30.out).mono ?_); (case side1 => exact ca (Kd.R_reads' HO_5.out).2.2); (case side2 => exact (Kd.R_reads' HO_5.out).2.1); rintro e w34 ⟨v1733, rfl, ho0, hb⟩; refine ⟨_, rfl, ?_⟩; have HO1734 := Aside0.mk (Kd.R_lower (Kd.R_new' ho0 (rl_ HO_8)) (below_size (hB HB))); replace HO_5 := rb_ HO_5 hb; replace HO_7 := rb_ HO_7 hb; replace HO_8 := re_ HO_8 ho0 hb; replace HB := bst_ HB hb; clear hb ho0; obtain ⟨Ao35, co35, eo35⟩ := Kd.R_slice HO_8.out; subst eo35) | ((with_reducible refine gate_callee (f := 56) rfl ?_); refine goesL_ (some 106) rfl rfl Try.func56 (by kernel_rfl) rfl #[.slice Ao35 t1718.length co35, .int .i64 t1712] rfl tm_ ?_; (with_reducible refine (impl_ReachedBy.calls kj8 _ _ t1718 t1712 t1735 t1736 _ ?side1 ?side2 A31.out).mono ?_); (case side1 => exact ca (Kd.R_reads' HO_8.out).2.2); (case side2 => exact (Kd.R_reads' HO_8.out).2.1); rintro e w36 ⟨v1737, rfl, ho0, hb⟩; refine ⟨_, rfl, ?_⟩; have HO1738 := Aside0.mk (Kd.R_lower (Kd.R_new' (Kd.R_new' ho0 (rl_ HO_5)) (rl_ HO_7)) (below_size (hB HB))); replace HO_5 := re_ HO_5 ho0 hb; replace HO_7 := re_ HO_7 ho0 hb; replace HO_8 := rb_ HO_8 hb; replace HO1734 := rb_ HO1734 hb; replace HB := bst_ HB hb; clear hb ho0; obtain ⟨Ao37, co37, eo37⟩ := Kd.R_slice HO1734.out; subst eo37) | ((with_reducible refine gate_callee (f := 56) rfl ?_); refine goesL_ (some 112) rfl rfl Try.func56 (by kernel_rfl) rfl #[.slice Ao37 t1731.length co37, .int .i64 t1712] rfl tm_ ?_; (with_reducible refine (impl_ReachedBy.calls kj8 _ _ t1731 t1712 t1739 t1740 _ ?side1 ?side2 A32.out).mono ?_); (case side1 => exact ca (Kd.R_reads' HO1734.out).2.2); (case side2 => exact (Kd.R_reads' HO1734.out).2.1); rintro e w38 ⟨v1741, rfl, ho0, hb⟩; refine ⟨_, rfl, ?_⟩; have HO1742 := Aside0.mk (Kd.R_lower (Kd.R_new' (Kd.R_new' (Kd.R_new' ho0 (rl_ HO_5)) (rl_ HO_7)) (rl_ HO1738)) (below_size (hB HB))); replace HO_5 := re_ HO_5 ho0 hb; replace HO_7 := re_ HO_7 ho0 hb; replace HO_8 := rb_ HO_8 hb; replace HO1734 := rb_ HO1734 hb; replace HO1738 := re_ HO1738 ho0 hb; replace HB := bst_ HB hb; clear hb ho0))
         (try simp only [Act.put, List.setIfInBounds_toArray, List.set_cons_zero, List.set_cons_succ])
         go_cut [145] (fun v145 wc => ∃ (kq : Nat) (x145_32 : Bool), v145 = .bool x145_32 ∧ Aside0 (laws_FnPruned.j1 kq l1 t1711 t1713 t1718 t1735 t1739 x145_32 = some r) ∧ Aside0 (kq ≤ kj8) ∧ Aside0 (Kd.R (Kd.int .i64) 3 wc w.heap.size (fun k_ => no_ (.slice Ao12 t1713.length co12) k_ ∧ no_ v1737 k_ ∧ no_ v1741 k_) (.slice Ao11 t1711.length co11) t1711) ∧ Aside0 (Kd.R (Kd.int .i64) 3 wc w.heap.size (fun k_ => no_ (.slice Ao11 t1711.length co11) k_ ∧ no_ v1737 k_ ∧ no_ v1741 k_) (.slice Ao12 t1713.length co12) t1713) ∧ Aside0 (Kd.R k76 76 wc w.heap.size (fun _ => True) (.slice Ao35 t1718.length co35) t1718) ∧ Aside0 (Kd.R (Kd.int .i64) 3 wc w.heap.size (fun k_ => no_ (.slice Ao11 t1711.length co11) k_ ∧ no_ (.slice Ao12 t1713.length co12) k_ ∧ no_ v1741 k_) v1737 t1735) ∧ Aside0 (Kd.R (Kd.int .i64) 3 wc w.heap.size (fun k_ => no_ (.slice Ao11 t1711.length co11) k_ ∧ no_ (.slice Ao12 t1713.length co12) k_ ∧ no_ v1737 k_) v1741 t1739) ∧ Aside0 (Below w.heap.size w wc))
         case first =>
          as_aux_lemma =>
           have H := HC33.out
           clear HC33
           by_cases c39 : t1727 = true
           rotate_left
           ·replace c39 := Bool.eq_false_iff.mpr c39
            subst c39
            rw [if_neg (show ¬ (false = true) by decide)] at H
            have H' := Aside0.mk H
            clear H
            go_wp2
            go_meet
            case rel => exact ⟨_, (true), (by first | rfl | (simp; done) | (simp [*]; done)), H', ⟨by have := HJ8.out; first | omega | exact Nat.le_refl _⟩, rm_ HO_5 (fun _ hk => ⟨hk.1.1, ⟨hk.1.2, hk.2⟩⟩), rm_ HO_7 (fun _ hk => ⟨hk.1.1, ⟨hk.1.2, hk.2⟩⟩), rm_ HO_8 (fun _ hk => trivial), rm_ HO1738 (fun _ hk => ⟨hk.1.1.2, ⟨hk.1.2, hk.2⟩⟩), rm_ HO1742 (fun _ hk => ⟨hk.1.1.2, ⟨hk.1.2, hk.2⟩⟩), ⟨hB HB⟩⟩
           subst c39
           rw [if_pos rfl] at H
           by_cases c40 : t1732 = true
           rotate_left
           ·replace c40 := Bool.eq_false_iff.mpr c40
            subst c40
            rw [if_neg (show ¬ (false = true) by decide)] at H
            have H' := Aside0.mk H
            clear H
            go_wp2
            go_meet
            case rel => exact ⟨_, (true), (by first | rfl | (simp; done) | (simp [*]; done)), H', ⟨by have := HJ8.out; first | omega | exact Nat.le_refl _⟩, rm_ HO_5 (fun _ hk => ⟨hk.1.1, ⟨hk.1.2, hk.2⟩⟩), rm_ HO_7 (fun _ hk => ⟨hk.1.1, ⟨hk.1.2, hk.2⟩⟩), rm_ HO_8 (fun _ hk => trivial), rm_ HO1738 (fun _ hk => ⟨hk.1.1.2, ⟨hk.1.2, hk.2⟩⟩), rm_ HO1742 (fun _ hk => ⟨hk.1.1.2, ⟨hk.1.2, hk.2⟩⟩), ⟨hB HB⟩⟩
           subst c40
           rw [if_pos rfl] at H
           by_cases c41 : t1726 = (wrap64 ((t1731.length : Int) - (t1718.length : Int)))
           rotate_left
           ·rw [if_neg c41] at H
            have c41b0 : (t1726 == (wrap64 ((t1731.length : Int) - (t1718.length : Int)))) = false := beq_eq_false_iff_ne.mpr c41
            have c41b1 : (t1726 != (wrap64 ((t1731.length : Int) - (t1718.length : Int)))) = true := bne_iff_ne.mpr c41
            (first | rw [c41b0] | (simp only [i64_w, i32_w]; rw [c41b0]) | skip)
            have H' := Aside0.mk H
            clear H
            go_wp2
            go_meet
            case rel => exact ⟨_, (true), (by first | rfl | (simp; done) | (simp [*]; done)), H', ⟨by have := HJ8.out; first | omega | exact Nat.le_refl _⟩, rm_ HO_5 (fun _ hk => ⟨hk.1.1, ⟨hk.1.2, hk.2⟩⟩), rm_ HO_7 (fun _ hk => ⟨hk.1.1, ⟨hk.1.2, hk.2⟩⟩), rm_ HO_8 (fun _ hk => trivial), rm_ HO1738 (fun _ hk => ⟨hk.1.1.2, ⟨hk.1.2, hk.2⟩⟩), rm_ HO1742 (fun _ hk => ⟨hk.1.1.2, ⟨hk.1.2, hk.2⟩⟩), ⟨hB HB⟩⟩
           rw [if_pos c41] at H
           have c41b0 : (t1726 == (wrap64 ((t1731.length : Int) - (t1718.length : Int)))) = true := beq_iff_eq.mpr c41
           have c41b1 : (t1726 != (wrap64 ((t1731.length : Int) - (t1718.length : Int)))) = false := bne_eq_false_iff_eq.mpr c41
           clear c41
           (first | rw [c41b0] | (simp only [i64_w, i32_w]; rw [c41b0]) | skip)
           by_cases c42 : t1736 = true
           rotate_left
           ·replace c42 := Bool.eq_false_iff.mpr c42
            subst c42
            rw [if_neg (show ¬ (false = true) by decide)] at H
            have H' := Aside0.mk H
            clear H
            go_wp2
            go_meet
            case rel => exact ⟨_, (true), (by first | rfl | (simp; done) | (simp [*]; done)), H', ⟨by have := HJ8.out; first | omega | exact Nat.le_refl _⟩, rm_ HO_5 (fun _ hk => ⟨hk.1.1, ⟨hk.1.2, hk.2⟩⟩), rm_ HO_7 (fun _ hk => ⟨hk.1.1, ⟨hk.1.2, hk.2⟩⟩), rm_ HO_8 (fun _ hk => trivial), rm_ HO1738 (fun _ hk => ⟨hk.1.1.2, ⟨hk.1.2, hk.2⟩⟩), rm_ HO1742 (fun _ hk => ⟨hk.1.1.2, ⟨hk.1.2, hk.2⟩⟩), ⟨hB HB⟩⟩
           subst c42
           rw [if_pos rfl] at H
           by_cases c43 : t1740 = true
           rotate_left
           ·replace c43 := Bool.eq_false_iff.mpr c43
            subst c43
            rw [if_neg (show ¬ (false = true) by decide)] at H
            have H' := Aside0.mk H
            clear H
            go_wp2
            go_meet
            case rel => exact ⟨_, (true), (by first | rfl | (simp; done) | (simp [*]; done)), H', ⟨by have := HJ8.out; first | omega | exact Nat.le_refl _⟩, rm_ HO_5 (fun _ hk => ⟨hk.1.1, ⟨hk.1.2, hk.2⟩⟩), rm_ HO_7 (fun _ hk => ⟨hk.1.1, ⟨hk.1.2, hk.2⟩⟩), rm_ HO_8 (fun _ hk => trivial), rm_ HO1738 (fun _ hk => ⟨hk.1.1.2, ⟨hk.1.2, hk.2⟩⟩), rm_ HO1742 (fun _ hk => ⟨hk.1.1.2, ⟨hk.1.2, hk.2⟩⟩), ⟨hB HB⟩⟩
           subst c43
           rw [if_pos rfl] at H
           have H' := Aside0.mk H
           clear H
           obtain ⟨Ao44, co44, eo44⟩ := Kd.R_slice HO1738.out
           subst eo44
           go_wp2
           go_meet
           case rel => exact ⟨_, (((t1735.length : Int) != (wrap64 ((t1718.length : Int) + 1)))), (by first | rfl | (simp; done) | (simp [*]; done)), H', ⟨by have := HJ8.out; first | omega | exact Nat.le_refl _⟩, rm_ HO_5 (fun _ hk => ⟨hk.1.1, ⟨hk.1.2, hk.2⟩⟩), rm_ HO_7 (fun _ hk => ⟨hk.1.1, ⟨hk.1.2, hk.2⟩⟩), rm_ HO_8 (fun _ hk => trivial), rm_ HO1738 (fun _ hk => ⟨hk.1.1.2, ⟨hk.1.2, hk.2⟩⟩), rm_ HO1742 (fun _ hk => ⟨hk.1.1.2, ⟨hk.1.2, hk.2⟩⟩), ⟨hB HB⟩⟩
         case rest =>
          as_aux_lemma =>
           clear HC33
           try clear c1
           try clear c3
           try clear c3b0
           try clear c27
           try clear c29
           obtain ⟨kq, x145_32, rfl, HA, HJ32, HO_5, HO_7, HO_8, HO_18, HO_20, HB⟩ := hcut
           cases kq with
           | zero => exact absurd HA.out (by simp [laws_FnPruned.j1])
           | succ kj32 =>
            have H := HA.out
            clear HA
            simp only [laws_FnPruned.j1] at H
            by_cases c45 : x145_32 = true
            ·subst c45
             rw [if_pos rfl] at H
             obtain rfl := Option.some.inj H
             go_wp2
             go_ret
             exact ⟨by first | rfl | (simp [errW_none, errW_some] <;> rfl) | (simp [*, errW_none, errW_some] <;> rfl), by repeat (first | (with_reducible first | exact HB.out | apply below_alloc | apply pw_below_drewN | apply below_drew1) | exact HB.out)⟩
            replace c45 := Bool.eq_false_iff.mpr c45
            subst c45
            rw [if_neg (show ¬ (false = true) by decide)] at H
            have H' := Aside0.mk H
            clear H
            go_wp2
            go_loopg [148] kj32 (fun kq v148 w' => ∃ (x148_3 : Int), v148 = .int .i64 x148_3 ∧ Aside0 (laws_FnPruned.l0 kq l1 t1711 t1713 t1718 t1735 t1739 t1713 (t1713.length : Int) x148_3 = some r) ∧ Aside0 (kq ≤ kj32) ∧ Aside0 (Kd.R (Kd.int .i64) 3 w' w.heap.size (fun k_ => no_ (.slice Ao12 t1713.length co12) k_ ∧ no_ v1737 k_ ∧ no_ v1741 k_ ∧ no_ (.slice Ao12 t1713.length co12) k_) (.slice Ao11 t1711.length co11) t1711) ∧ Aside0 (Kd.R (Kd.int .i64) 3 w' w.heap.size (fun k_ => no_ (.slice Ao11 t1711.length co11) k_ ∧ no_ v1737 k_ ∧ no_ v1741 k_) (.slice Ao12 t1713.length co12) t1713) ∧ Aside0 (Kd.R k76 76 w' w.heap.size (fun _ => True) (.slice Ao35 t1718.length co35) t1718) ∧ Aside0 (Kd.R (Kd.int .i64) 3 w' w.heap.size (fun k_ => no_ (.slice Ao11 t1711.length co11) k_ ∧ no_ (.slice Ao12 t1713.length co12) k_ ∧ no_ v1741 k_ ∧ no_ (.slice Ao12 t1713.length co12) k_) v1737 t1735) ∧ Aside0 (Kd.R (Kd.int .i64) 3 w' w.heap.size (fun k_ => no_ (.slice Ao11 t1711.length co11) k_ ∧ no_ (.slice Ao12 t1713.length co12) k_ ∧ no_ v1737 k_ ∧ no_ (.slice Ao12 t1713.length co12) k_) v1741 t1739) ∧ Aside0 (Kd.R (Kd.int .i64) 3 w' w.heap.size (fun k_ => no_ (.slice Ao11 t1711.length co11) k_ ∧ no_ v1737 k_ ∧ no_ v1741 k_) (.slice Ao12 t1713.length co12) t1713) ∧ Aside0 (Below w.heap.size w w'))
            case atStart => exact ⟨(0), (by first | rfl | (simp; done) | (simp [*]; done)), H', ⟨Nat.le_refl _⟩, rm_ HO_5 (fun _ hk => ⟨hk.1, ⟨hk.2.1, ⟨hk.2.2, hk.1⟩⟩⟩), ⟨ra HO_7.out⟩, ⟨ra HO_8.out⟩, rm_ HO_18 (fun _ hk => ⟨hk.1, ⟨hk.2.1, ⟨hk.2.2, hk.2.1⟩⟩⟩), rm_ HO_20 (fun _ hk => ⟨hk.1, ⟨hk.2.1, ⟨hk.2.2, hk.2.1⟩⟩⟩), ⟨ra HO_7.out⟩, ⟨hB HB⟩⟩
            case round =>
             as_aux_lemma =>
              clear H'
              try clear c1
              try clear c3
              try clear c3b0
              try clear c27
              try clear c29
              try clear c45
              obtain ⟨x148_3, rfl, HA, HK3, HO_5, HO_7, HO_8, HO_18, HO_20, HO_146, HB⟩ := hrel
              cases gk with
              | zero => exact absurd HA.out (by simp [laws_FnPruned.l0])
              | succ k3 =>
               have H := HA.out
               clear HA
               simp only [laws_FnPruned.l0] at H
               by_cases c46 : x148_3 < (t1713.length : Int)
               ·rw [if_pos c46] at H
                have c46b0 : decide (x148_3 < (t1713.length : Int)) = true := decide_eq_true c46
                clear c46
                by_cases c47 : 0 ≤ x148_3
                rotate_left
                ·rw [if_neg c47] at H
                 exact absurd H (by simp)
                rw [if_pos c47] at H
                have c47b0 : decide (0 ≤ x148_3) = true := decide_eq_true c47
                clear c47
                by_cases c48 : x148_3 < (t1713.length : Int)
                rotate_left
                ·rw [if_neg c48] at H
                 exact absurd H (by simp)
                rw [if_pos c48] at H
                have c48b0 : decide (x148_3 < (t1713.length : Int)) = true := decide_eq_true c48
                clear c48
                replace H := Option.bind_eq_some_iff.mp H
                obtain ⟨t1744, A490, H⟩ := H
                replace H : ((laws_has.f k3 t1735 (rd t1713 x148_3)).bind fun t1745 => (if (t1744 != t1745) = true then (some false) else (laws_FnPruned.l0 k3 l1 t1711 t1713 t1718 t1735 t1739 t1713 (t1713.length : Int) (wrap64 (x148_3 + 1))))) = some r := H
                have A49 := Aside0.mk A490
                clear A490
                replace H := Option.bind_eq_some_iff.mp H
                obtain ⟨t1745, A500, H⟩ := H
                replace H : (if (t1744 != t1745) = true then (some false) else (laws_FnPruned.l0 k3 l1 t1711 t1713 t1718 t1735 t1739 t1713 (t1713.length : Int) (wrap64 (x148_3 + 1)))) = some r := H
                have A50 := Aside0.mk A500
                clear A500
                by_cases c51 : (t1744 != t1745) = true
                ·rw [if_pos c51] at H
                 have c51b0 : (t1744 != t1745) = true := c51
                 (try (have c51b1 : decide (t1744 = t1745) = false := by simpa using c51))
                 (try (have c51b2 : (t1744 == t1745) = false := by simpa using c51))
                 (try (have c51b3 : ¬ (t1744 = t1745) := by simpa using c51))
                 clear c51
                 obtain rfl := Option.some.inj H
                 have p1743 : 0 ≤ (x148_3 : Int) := of_decide_eq_true (by first | (with_reducible assumption) | assumption)
                 have q1743 : x148_3 < (t1713.length : Int) := of_decide_eq_true (by first | (with_reducible assumption) | assumption)
                 obtain ⟨ad1743, e1743, hx1743_0⟩ := Kd.at_int (Kd.R_reads' HO_146.out).2.2 x148_3 p1743 q1743
                 cases e1743
                 replace p1743 := eq_true p1743
                 replace q1743 := eq_true q1743
                 obtain ⟨Ao52, co52, eo52⟩ := Kd.R_slice HO_20.out
                 subst eo52
                 as_aux_lemma =>
                  go_wp2_with (first | ((with_reducible refine gate_callee (f := 43) rfl ?_); refine goesL_ (some 154) rfl rfl Try.func43 (by kernel_rfl) rfl #[.slice Ao52 t1739.length co52, .int .i64 (rd t1713 x148_3)] rfl tm_ ?_; (with_reducible refine (laws_has.calls k3 _ _ t1739 (rd t1713 x148_3) t1744 _ ?side1 ?side2 A49.out).mono ?_); (case side1 => exact ca (Kd.R_reads' HO_20.out).2.2); (case side2 => exact (Kd.R_reads' HO_20.out).2.1); rintro e w' ⟨rfl, ⟨nd, rfl⟩⟩; refine ⟨_, rfl, ?_⟩; obtain ⟨Ao53, co53, eo53⟩ := Kd.R_slice HO_18.out; subst eo53) | ((with_reducible refine gate_callee (f := 43) rfl ?_); refine goesL_ (some 157) rfl rfl Try.func43 (by kernel_rfl) rfl #[.slice Ao53 t1735.length co53, .int .i64 (rd t1713 x148_3)] rfl tm_ ?_; (with_reducible refine (laws_has.calls k3 _ _ t1735 (rd t1713 x148_3) t1745 _ ?side1 ?side2 A50.out).mono ?_); (case side1 => exact ca (Kd.R_reads' HO_18.out).2.2); (case side2 => exact (Kd.R_reads' HO_18.out).2.1); rintro e w' ⟨rfl, ⟨nd, rfl⟩⟩; refine ⟨_, rfl, ?_⟩))
                  go_ret
                  exact ⟨by first | rfl | (simp [errW_none, errW_some] <;> rfl) | (simp [*, errW_none, errW_some] <;> rfl), by repeat (first | (with_reducible first | exact HB.out | apply below_alloc | apply pw_below_drewN | apply below_drew1) | exact HB.out)⟩
                rw [if_neg c51] at H
                have c51b0 : (t1744 != t1745) = false := by simpa using c51
                (try (have c51b1 : decide (t1744 = t1745) = true := by simpa using c51))
                (try (have c51b2 : (t1744 == t1745) = true := by simpa using c51))
                clear c51
                have H' := Aside0.mk H
                clear H
                have p1743 : 0 ≤ (x148_3 : Int) := of_decide_eq_true (by first | (with_reducible assumption) | assumption)
                have q1743 : x148_3 < (t1713.length : Int) := of_decide_eq_true (by first | (with_reducible assumption) | assumption)
                obtain ⟨ad1743, e1743, hx1743_0⟩ := Kd.at_int (Kd.R_reads' HO_146.out).2.2 x148_3 p1743 q1743
                cases e1743
                replace p1743 := eq_true p1743
                replace q1743 := eq_true q1743
                obtain ⟨Ao54, co54, eo54⟩ := Kd.R_slice HO_20.out
                subst eo54
                as_aux_lemma =>
                 go_wp2_with (first | ((with_reducible refine gate_callee (f := 43) rfl ?_); refine goesL_ (some 154) rfl rfl Try.func43 (by kernel_rfl) rfl #[.slice Ao54 t1739.length co54, .int .i64 (rd t1713 x148_3)] rfl tm_ ?_; (with_reducible refine (laws_has.calls k3 _ _ t1739 (rd t1713 x148_3) t1744 _ ?side1 ?side2 A49.out).mono ?_); (case side1 => exact ca (Kd.R_reads' HO_20.out).2.2); (case side2 => exact (Kd.R_reads' HO_20.out).2.1); rintro e w' ⟨rfl, ⟨nd, rfl⟩⟩; refine ⟨_, rfl, ?_⟩; obtain ⟨Ao55, co55, eo55⟩ := Kd.R_slice HO_18.out; subst eo55) | ((with_reducible refine gate_callee (f := 43) rfl ?_); refine goesL_ (some 157) rfl rfl Try.func43 (by kernel_rfl) rfl #[.slice Ao55 t1735.length co55, .int .i64 (rd t1713 x148_3)] rfl tm_ ?_; (with_reducible refine (laws_has.calls k3 _ _ t1735 (rd t1713 x148_3) t1745 _ ?side1 ?side2 A50.out).mono ?_); (case side1 => exact ca (Kd.R_reads' HO_18.out).2.2); (case side2 => exact (Kd.R_reads' HO_18.out).2.1); rintro e w' ⟨rfl, ⟨nd, rfl⟩⟩; refine ⟨_, rfl, ?_⟩))
                 go_roundg k3
                 case measure => have := HJ8.out; have := HJ32.out; have := HK3.out; omega
                 case rel => exact ⟨(wrap64 (x148_3 + 1)), (by first | rfl | (simp; done) | (simp [*]; done)), H', ⟨by have := HJ8.out; have := HJ32.out; have := HK3.out; omega⟩, ⟨ra HO_5.out⟩, ⟨ra HO_7.out⟩, ⟨ra HO_8.out⟩, ⟨ra HO_18.out⟩, ⟨ra HO_20.out⟩, ⟨ra HO_146.out⟩, ⟨hB HB⟩⟩
               rw [if_neg c46] at H
               have c46b0 : decide (x148_3 < (t1713.length : Int)) = false := decide_eq_false c46
               clear c46
               have H' := Aside0.mk H
               clear H
               go_wp2
               go_loopg [162] k3 (fun kq v162 w' => ∃ (x162_4 : Int), v162 = .int .i64 x162_4 ∧ Aside0 (laws_FnPruned.l1 kq l1 t1711 t1713 t1718 (t1718.length : Int) x162_4 = some r) ∧ Aside0 (kq ≤ k3) ∧ Aside0 (Kd.R (Kd.int .i64) 3 w' w.heap.size (fun k_ => no_ (.slice Ao12 t1713.length co12) k_) (.slice Ao11 t1711.length co11) t1711) ∧ Aside0 (Kd.R (Kd.int .i64) 3 w' w.heap.size (fun k_ => no_ (.slice Ao11 t1711.length co11) k_) (.slice Ao12 t1713.length co12) t1713) ∧ Aside0 (Kd.R k76 76 w' w.heap.size (fun _ => True) (.slice Ao35 t1718.length co35) t1718) ∧ Aside0 (Below w.heap.size w w'))
               case atStart => exact ⟨(0), (by first | rfl | (simp; done) | (simp [*]; done)), H', ⟨Nat.le_refl _⟩, rm_ HO_5 (fun _ hk => hk.1), rm_ HO_7 (fun _ hk => hk.1), ⟨ra HO_8.out⟩, ⟨hB HB⟩⟩
               case round =>
                as_aux_lemma =>
                 clear H'
                 try clear c1
                 try clear c3
                 try clear c3b0
                 try clear c27
                 try clear c29
                 try clear c45
                 try clear c46
                 try clear c46b0
                 obtain ⟨x162_4, rfl, HA, HK4, HO_5, HO_7, HO_160, HB⟩ := hrel
                 cases gk with
                 | zero => exact absurd HA.out (by simp [laws_FnPruned.l1])
                 | succ k4 =>
                  have H := HA.out
                  clear HA
                  simp only [laws_FnPruned.l1] at H
                  by_cases c56 : x162_4 < (t1718.length : Int)
                  rotate_left
                  ·rw [if_neg c56] at H
                   have c56b0 : decide (x162_4 < (t1718.length : Int)) = false := decide_eq_false c56
                   clear c56
                   have H' := Aside0.mk H
                   clear H
                   go_wp2
                   go_meet
                   case rel => exact ⟨_, H', ⟨by have := HJ8.out; have := HJ32.out; have := HK3.out; have := HK4.out; first | omega | exact Nat.le_refl _⟩, ⟨hB HB⟩⟩
                  rw [if_pos c56] at H
                  have c56b0 : decide (x162_4 < (t1718.length : Int)) = true := decide_eq_true c56
                  clear c56
                  by_cases c57 : 0 ≤ x162_4
                  rotate_left
                  ·rw [if_neg c57] at H
                   exact absurd H (by simp)
                  rw [if_pos c57] at H
                  have c57b0 : decide (0 ≤ x162_4) = true := decide_eq_true c57
                  clear c57
                  by_cases c58 : x162_4 < (t1718.length : Int)
                  rotate_left
                  ·rw [if_neg c58] at H
                   exact absurd H (by simp)
                  rw [if_pos c58] at H
                  have c58b0 : decide (x162_4 < (t1718.length : Int)) = true := decide_eq_true c58
                  clear c58
                  replace H := Option.bind_eq_some_iff.mp H
                  obtain ⟨⟨t1748, t1749⟩, A590, H⟩ := H
                  replace H : (laws_FnPruned.l2 k4 l1 t1711 t1713 t1749 false t1718 (t1718.length : Int) x162_4 t1748 (t1748.length : Int) 0) = some r := H
                  have A59 := Aside0.mk A590
                  clear A590
                  have H' := Aside0.mk H
                  clear H
                  have p1746 : 0 ≤ (x162_4 : Int) := of_decide_eq_true (by first | (with_reducible assumption) | assumption)
                  have q1746 : x162_4 < (t1718.length : Int) := of_decide_eq_true (by first | (with_reducible assumption) | assumption)
                  obtain ⟨ad1746, e1746, hx1746_0, hx1746_1⟩ := at_T76 (Kd.R_reads' HO_160.out).2.2 x162_4 p1746 q1746
                  cases e1746
                  replace p1746 := eq_true p1746
                  replace q1746 := eq_true q1746
                  as_aux_lemma =>
                   go_wp2_with (first | ((with_reducible refine gate_dst (N := 25) rfl ?_); (try (refine gate_guard (by rfl) ?_; dsimp only)); refine box_event ?hg (N := 25) ?hd (cs := #[.int .i64 0, .int .i64 0]) (t := 76) ?hr ?_; (case hd => rfl); (case hg => rfl); (case hr => first | (go_simp; done) | (go_simp; rfl)); intro gb1747 hg w60 hbox hb; have BK1747 := Aside0.mk (hbox); have GW1747 := gw_ hg HB; have GE1747 := gw_ hg HB; replace HO_5 := rb_ HO_5 hb; replace HO_7 := rb_ HO_7 hb; replace HO_160 := Aside0.mk (Kd.R_below (Kd.R_elderB (ra HO_160.out) gb1747 (Nat.le_of_eq hg.symm)) hb); replace HB := bst_ HB hb; clear hb hbox hg; have hcz61_0 : w60.cell? ⟨gb1747, 0, none⟩ = some (.int .i64 0) := bc_ BK1747 0; have hcz61_1 : w60.cell? ⟨gb1747, 1, none⟩ = some (.int .i64 0) := bc_ BK1747 1; have hfz61_0 := blk_frozen BK1747.out 0; have hfz61_1 := blk_frozen BK1747.out 1) | ((with_reducible refine gate_callee (f := 40) rfl ?_); refine goesL_ (some 172) rfl rfl Try.func40 (by kernel_rfl) rfl #[.slice Ao11 t1711.length co11, .int .i64 ((rd_T76 t1718 x162_4).f0), .int .i64 ((rd_T76 t1718 x162_4).f1)] rfl tm_ ?_; (with_reducible refine (impl_BehindOf.calls k4 _ _ t1711 ((rd_T76 t1718 x162_4).f0) ((rd_T76 t1718 x162_4).f1) t1748 t1749 _ ?side1 ?side2 A59.out).mono ?_); (case side1 => exact rr_ (Kd.R_mono (Kd.R_far (p := ⟨gb1747, 1, none⟩) (Kd.R_far (p := ⟨gb1747, 0, none⟩) (Kd.R_types HO_5.out BK1747.out (by decide)) (fun _ hk => hk.2) (.int .i64 ((rd_T76 t1718 x162_4).f0))) (fun _ hk => hk.2) (.int .i64 ((rd_T76 t1718 x162_4).f1))) (fun _ h_ => h_.1))); (case side2 => exact (Kd.R_reads' HO_5.out).2.1); rintro e w62 ⟨v1750, rfl, ho0, hb⟩; refine ⟨_, rfl, ?_⟩; have HO1751 := Aside0.mk (Kd.R_lower (Kd.R_new' (Kd.R_new' ho0 (Kd.R_lt (ra (Kd.R_mono (Kd.R_far (p := ⟨gb1747, 1, none⟩) (Kd.R_far (p := ⟨gb1747, 0, none⟩) (Kd.R_types HO_5.out BK1747.out (by decide)) (fun _ hk => hk.2) (.int .i64 ((rd_T76 t1718 x162_4).f0))) (fun _ hk => hk.2) (.int .i64 ((rd_T76 t1718 x162_4).f1))) (fun _ h_ => h_.1))))) (Kd.R_lt (ra (Kd.R_mono (Kd.R_far (p := ⟨gb1747, 1, none⟩) (Kd.R_far (p := ⟨gb1747, 0, none⟩) (Kd.R_types HO_7.out BK1747.out (by decide)) (fun _ hk => hk.2) (.int .i64 ((rd_T76 t1718 x162_4).f0))) (fun _ hk => hk.2) (.int .i64 ((rd_T76 t1718 x162_4).f1))) (fun _ h_ => h_.1))))) (below_size (hB HB))); replace HO_5 := Aside0.mk (Kd.R_elder' (ra (Kd.R_mono (Kd.R_far (p := ⟨gb1747, 1, none⟩) (Kd.R_far (p := ⟨gb1747, 0, none⟩) (Kd.R_types HO_5.out BK1747.out (by decide)) (fun _ hk => hk.2) (.int .i64 ((rd_T76 t1718 x162_4).f0))) (fun _ hk => hk.2) (.int .i64 ((rd_T76 t1718 x162_4).f1))) (fun _ h_ => h_.1))) (Kd.R_base ho0) hb); replace HO_7 := Aside0.mk (Kd.R_elder' (ra (Kd.R_mono (Kd.R_far (p := ⟨gb1747, 1, none⟩) (Kd.R_far (p := ⟨gb1747, 0, none⟩) (Kd.R_types HO_7.out BK1747.out (by decide)) (fun _ hk => hk.2) (.int .i64 ((rd_T76 t1718 x162_4).f0))) (fun _ hk => hk.2) (.int .i64 ((rd_T76 t1718 x162_4).f1))) (fun _ h_ => h_.1))) (Kd.R_base ho0) hb); replace HO_160 := Aside0.mk (Kd.R_below (ra (Kd.R_mono (Kd.R_far (p := ⟨gb1747, 1, none⟩) (Kd.R_far (p := ⟨gb1747, 0, none⟩) (Kd.R_mono HO_160.out (fun k_ hk => (⟨hk, hk.2⟩ : _ ∧ k_ ≠ gb1747))) (fun _ hk => hk.2) (.int .i64 ((rd_T76 t1718 x162_4).f0))) (fun _ hk => hk.2) (.int .i64 ((rd_T76 t1718 x162_4).f1))) (fun _ h_ => h_.1))) hb); replace BK1747 := Aside0.mk (blk_below (g := gb1747) (o := .cells #[.int .i64 ((rd_T76 t1718 x162_4).f0), .int .i64 ((rd_T76 t1718 x162_4).f1)] 76 (0, 0)) (by (with_reducible repeat (first | refine blk_drewN ?_ _ | refine blk_drew ?_ | refine blk_alloc ?_ _)); refine blk_put (cs := #[.int .i64 ((rd_T76 t1718 x162_4).f0), .int .i64 0]) ?_ 1 _ rfl; (with_reducible repeat (first | refine blk_drewN ?_ _ | refine blk_drew ?_ | refine blk_alloc ?_ _)); refine blk_put (cs := #[.int .i64 0, .int .i64 0]) ?_ 0 _ rfl; (with_reducible repeat (first | refine blk_drewN ?_ _ | refine blk_drew ?_ | refine blk_alloc ?_ _)); exact BK1747.out) hb); replace HB := bst_ HB hb; clear hb ho0; obtain ⟨Ao63, co63, eo63⟩ := Kd.R_slice HO1751.out; subst eo63))
                   go_loopg [28, 177] k4 (fun kq v28 v177 w' => ∃ (x28_5 : Bool) (x177_5 : Int), v28 = .bool x28_5 ∧ v177 = .int .i64 x177_5 ∧ Aside0 (laws_FnPruned.l2 kq l1 t1711 t1713 t1749 x28_5 t1718 (t1718.length : Int) x162_4 t1748 (t1748.length : Int) x177_5 = some r) ∧ Aside0 (kq ≤ k4) ∧ Aside0 (Kd.R (Kd.int .i64) 3 w' w.heap.size (fun k_ => no_ (.slice Ao12 t1713.length co12) k_ ∧ no_ (.slice Ao63 t1748.length co63) k_) (.slice Ao11 t1711.length co11) t1711) ∧ Aside0 (Kd.R (Kd.int .i64) 3 w' w.heap.size (fun k_ => no_ (.slice Ao11 t1711.length co11) k_ ∧ no_ (.slice Ao63 t1748.length co63) k_) (.slice Ao12 t1713.length co12) t1713) ∧ Aside0 (Kd.R k76 76 w' w.heap.size (fun k_ => k_ ≠ gb1747) (.slice (some ad1746) t1718.length co35) t1718) ∧ Aside0 (Kd.R (Kd.int .i64) 3 w' w.heap.size (fun k_ => no_ (.slice Ao11 t1711.length co11) k_ ∧ no_ (.slice Ao12 t1713.length co12) k_) (.slice Ao63 t1748.length co63) t1748) ∧ Aside0 (w'.heap[gb1747]? = some (.cells #[.int .i64 ((rd_T76 t1718 x162_4).f0), .int .i64 ((rd_T76 t1718 x162_4).f1)] 76 (0, 0))) ∧ Aside0 (Below w.heap.size w w'))
                   case atStart => exact ⟨(false), (0), (by first | rfl | (simp; done) | (simp [*]; done)), (by first | rfl | (simp; done) | (simp [*]; done)), H', ⟨Nat.le_refl _⟩, ⟨ra HO_5.out⟩, ⟨ra HO_7.out⟩, rm_ HO_160 (fun _ hk => hk.2), rm_ HO1751 (fun _ hk => ⟨hk.1.2, hk.2⟩), ⟨by (with_reducible repeat (first | refine blk_drewN ?_ _ | refine blk_drew ?_ | refine blk_alloc ?_ _)); exact BK1747.out⟩, ⟨hB HB⟩⟩
                   case round =>
                    as_aux_lemma =>
                     clear H'
                     try clear c1
                     try clear c3
                     try clear c3b0
                     try clear c27
                     try clear c29
                     try clear c45
                     try clear c46
                     try clear c46b0
                     try clear c56
                     try clear c56b0
                     try clear c57
                     try clear c57b0
                     try clear c58
                     try clear c58b0
                     try clear hcz61_0
                     try clear hcz61_1
                     try clear hfz61_0
                     try clear hfz61_1
                     try clear hx1746_0
                     try clear hx1746_1
                     try clear p1746
                     try clear q1746
                     obtain ⟨x28_5, x177_5, rfl, rfl, HA, HK5, HO_5, HO_7, HO_160, HO_175, BK1747, HB⟩ := hrel
                     cases gk with
                     | zero => exact absurd HA.out (by simp [laws_FnPruned.l2])
                     | succ k5 =>
                      have H := HA.out
                      clear HA
                      simp only [laws_FnPruned.l2] at H
                      by_cases c64 : x177_5 < (t1748.length : Int)
                      rotate_left
                      ·rw [if_neg c64] at H
                       have c64b0 : decide (x177_5 < (t1748.length : Int)) = false := decide_eq_false c64
                       clear c64
                       by_cases c69 : t1749 = true
                       rotate_left
                       ·replace c69 := Bool.eq_false_iff.mpr c69
                        subst c69
                        rw [if_neg (show ¬ (false = true) by decide)] at H
                        obtain rfl := Option.some.inj H
                        go_wp2
                        go_ret
                        exact ⟨by first | rfl | (simp [errW_none, errW_some] <;> rfl) | (simp [*, errW_none, errW_some] <;> rfl), by repeat (first | (with_reducible first | exact HB.out | apply below_alloc | apply pw_below_drewN | apply below_drew1 | refine below_set ?_ GE1747.out) | exact HB.out)⟩
                       subst c69
                       rw [if_pos rfl] at H
                       by_cases c70 : x28_5 = true
                       rotate_left
                       ·replace c70 := Bool.eq_false_iff.mpr c70
                        subst c70
                        rw [if_neg (show ¬ (false = true) by decide)] at H
                        obtain rfl := Option.some.inj H
                        go_wp2
                        go_ret
                        exact ⟨by first | rfl | (simp [errW_none, errW_some] <;> rfl) | (simp [*, errW_none, errW_some] <;> rfl), by repeat (first | (with_reducible first | exact HB.out | apply below_alloc | apply pw_below_drewN | apply below_drew1 | refine below_set ?_ GE1747.out) | exact HB.out)⟩
                       subst c70
                       rw [if_pos rfl] at H
                       have H' := Aside0.mk H
                       clear H
                       go_wp2
                       go_roundg k5
                       case measure => have := HJ8.out; have := HJ32.out; have := HK3.out; have := HK4.out; have := HK5.out; omega
                       case rel => exact ⟨(wrap64 (x162_4 + 1)), (by first | rfl | (simp; done) | (simp [*]; done)), H', ⟨by have := HJ8.out; have := HJ32.out; have := HK3.out; have := HK4.out; have := HK5.out; omega⟩, rm_ HO_5 (fun _ hk => hk.1), rm_ HO_7 (fun _ hk => hk.1), rm_ HO_160 (fun _ hk => trivial), ⟨hB HB⟩⟩
                      rw [if_pos c64] at H
                      have c64b0 : decide (x177_5 < (t1748.length : Int)) = true := decide_eq_true c64
                      clear c64
                      by_cases c65 : 0 ≤ x177_5
                      rotate_left
                      ·rw [if_neg c65] at H
                       exact absurd H (by simp)
                      rw [if_pos c65] at H
                      have c65b0 : decide (0 ≤ x177_5) = true := decide_eq_true c65
                      clear c65
                      by_cases c66 : x177_5 < (t1748.length : Int)
                      rotate_left
                      ·rw [if_neg c66] at H
                       exact absurd H (by simp)
                      rw [if_pos c66] at H
                      have c66b0 : decide (x177_5 < (t1748.length : Int)) = true := decide_eq_true c66
                      clear c66
                      by_cases c67 : x28_5 = true
                      ·subst c67
                       rw [if_pos rfl] at H
                       have H' := Aside0.mk H
                       clear H
                       have p1752 : 0 ≤ (x177_5 : Int) := of_decide_eq_true (by first | (with_reducible assumption) | assumption)
                       have q1752 : x177_5 < (t1748.length : Int) := of_decide_eq_true (by first | (with_reducible assumption) | assumption)
                       obtain ⟨ad1752, e1752, hx1752_0⟩ := Kd.at_int (Kd.R_reads' HO_175.out).2.2 x177_5 p1752 q1752
                       cases e1752
                       replace p1752 := eq_true p1752
                       replace q1752 := eq_true q1752
                       go_wp2
                       go_roundg k5
                       case measure => have := HJ8.out; have := HJ32.out; have := HK3.out; have := HK4.out; have := HK5.out; omega
                       case rel => exact ⟨(true), (wrap64 (x177_5 + 1)), (by first | rfl | (simp; done) | (simp [*]; done)), (by first | rfl | (simp; done) | (simp [*]; done)), H', ⟨by have := HJ8.out; have := HJ32.out; have := HK3.out; have := HK4.out; have := HK5.out; omega⟩, ⟨ra HO_5.out⟩, ⟨ra HO_7.out⟩, ⟨ra HO_160.out⟩, ⟨ra HO_175.out⟩, ⟨by (with_reducible repeat (first | refine blk_drewN ?_ _ | refine blk_drew ?_ | refine blk_alloc ?_ _)); exact BK1747.out⟩, ⟨hB HB⟩⟩
                      replace c67 := Bool.eq_false_iff.mpr c67
                      subst c67
                      rw [if_neg (show ¬ (false = true) by decide)] at H
                      replace H := Option.bind_eq_some_iff.mp H
                      obtain ⟨t1753, A680, H⟩ := H
                      replace H : (laws_FnPruned.l2 k5 l1 t1711 t1713 t1749 t1753 t1718 (t1718.length : Int) x162_4 t1748 (t1748.length : Int) (wrap64 (x177_5 + 1))) = some r := H
                      have A68 := Aside0.mk A680
                      clear A680
                      have H' := Aside0.mk H
                      clear H
                      have p1752 : 0 ≤ (x177_5 : Int) := of_decide_eq_true (by first | (with_reducible assumption) | assumption)
                      have q1752 : x177_5 < (t1748.length : Int) := of_decide_eq_true (by first | (with_reducible assumption) | assumption)
                      obtain ⟨ad1752, e1752, hx1752_0⟩ := Kd.at_int (Kd.R_reads' HO_175.out).2.2 x177_5 p1752 q1752
                      cases e1752
                      replace p1752 := eq_true p1752
                      replace q1752 := eq_true q1752
                      as_aux_lemma =>
                       go_wp2_with (first | (go_at_call 43; (with_reducible refine (laws_has.calls k5 _ _ t1713 (rd t1748 x177_5) t1753 _ ?side1 ?side2 A68.out).mono ?_); (case side1 => exact ca (Kd.R_reads' HO_7.out).2.2); (case side2 => exact (Kd.R_reads' HO_7.out).2.1); rintro e w' ⟨rfl, ⟨nd, rfl⟩⟩))
                       go_roundg k5
                       case measure => have := HJ8.out; have := HJ32.out; have := HK3.out; have := HK4.out; have := HK5.out; omega
                       case rel => exact ⟨(t1753), (wrap64 (x177_5 + 1)), (by first | rfl | (simp; done) | (simp [*]; done)), (by first | rfl | (simp; done) | (simp [*]; done)), H', ⟨by have := HJ8.out; have := HJ32.out; have := HK3.out; have := HK4.out; have := HK5.out; omega⟩, ⟨ra HO_5.out⟩, ⟨ra HO_7.out⟩, ⟨ra HO_160.out⟩, ⟨ra HO_175.out⟩, ⟨by (with_reducible repeat (first | refine blk_drewN ?_ _ | refine blk_drew ?_ | refine blk_alloc ?_ _)); exact BK1747.out⟩, ⟨hB HB⟩⟩
      case rest =>
       as_aux_lemma =>
        clear HC28
        try clear c1
        try clear c3
        try clear c3b0
        try clear c27
        obtain ⟨kq, HA, HJ27, HB⟩ := hcut
        cases kq with
        | zero => exact absurd HA.out (by simp [laws_FnPruned.j5])
        | succ kj27 =>
         have H := HA.out
         clear HA
         simp only [laws_FnPruned.j5] at H
         replace H := Option.bind_eq_some_iff.mp H
         obtain ⟨⟨t1754, t1755⟩, A710, H⟩ := H
         replace H : ((impl_ReachedBy.f kj27 t1754 t1755).bind fun bt1758 => ((spec_ReachedBy.f kj27 t1754 t1755).bind fun bt1762 => (if (bt1758.2 == bt1762.2) = true then ((laws_sameInts.f kj27 bt1758.1 bt1762.1).bind fun t1766 => (some t1766)) else (some false)))) = some r := H
         have A71 := Aside0.mk A710
         clear A710
         replace H := Option.bind_eq_some_iff.mp H
         obtain ⟨⟨t1758, t1759⟩, A720, H⟩ := H
         replace H : ((spec_ReachedBy.f kj27 t1754 t1755).bind fun bt1762 => (if (t1759 == bt1762.2) = true then ((laws_sameInts.f kj27 t1758 bt1762.1).bind fun t1766 => (some t1766)) else (some false))) = some r := H
         have A72 := Aside0.mk A720
         clear A720
         replace H := Option.bind_eq_some_iff.mp H
         obtain ⟨⟨t1762, t1763⟩, A730, H⟩ := H
         replace H : (if (t1759 == t1763) = true then ((laws_sameInts.f kj27 t1758 t1762).bind fun t1766 => (some t1766)) else (some false)) = some r := H
         have A73 := Aside0.mk A730
         clear A730
         by_cases c74 : (t1759 == t1763) = true
         rotate_left
         ·rw [if_neg c74] at H
          have c74b0 : (t1759 == t1763) = false := by simpa using c74
          (try (have c74b1 : decide (t1759 = t1763) = false := by simpa using c74))
          (try (have c74b2 : (t1759 == t1763) = false := by simpa using c74))
          (try (have c74b3 : ¬ (t1759 = t1763) := by simpa using c74))
          clear c74
          obtain rfl := Option.some.inj H
          as_aux_lemma =>
           go_wp2_with (first | ((with_reducible refine gate_callee (f := 57) rfl ?_); refine goesL_ (some 197) rfl rfl Try.func57 (by kernel_rfl) rfl #[.slice A1 l1.length c1] rfl tm_ ?_; (with_reducible refine (spec_DrawReachedBy.calls kj27 _ _ l1 t1754 t1755 _ ?side1 ?side2 A71.out).mono ?_); (case side1 => exact ca (Kd.C_below HR1.out HB.out)); (case side2 => exact HC1.out); rintro e w82 ⟨v1756, rfl, ho0, hb⟩; refine ⟨_, rfl, ?_⟩; have HO1757 := Aside0.mk (Kd.R_lower ho0 (below_size (hB HB))); replace HB := bst_ HB hb; clear hb ho0; obtain ⟨Ao83, co83, eo83⟩ := Kd.R_slice HO1757.out; subst eo83) | ((with_reducible refine gate_callee (f := 56) rfl ?_); refine goesL_ (some 203) rfl rfl Try.func56 (by kernel_rfl) rfl #[.slice Ao83 t1754.length co83, .int .i64 t1755] rfl tm_ ?_; (with_reducible refine (impl_ReachedBy.calls kj27 _ _ t1754 t1755 t1758 t1759 _ ?side1 ?side2 A72.out).mono ?_); (case side1 => exact ca (Kd.R_reads' HO1757.out).2.2); (case side2 => exact (Kd.R_reads' HO1757.out).2.1); rintro e w84 ⟨v1760, rfl, ho0, hb⟩; refine ⟨_, rfl, ?_⟩; have HO1761 := Aside0.mk (Kd.R_lower ho0 (below_size (hB HB))); replace HO1757 := rb_ HO1757 hb; replace HB := bst_ HB hb; clear hb ho0) | ((with_reducible refine gate_callee (f := 58) rfl ?_); refine goesL_ (some 209) rfl rfl Try.func58 (by kernel_rfl) rfl #[.slice Ao83 t1754.length co83, .int .i64 t1755] rfl tm_ ?_; (with_reducible refine (spec_ReachedBy.calls kj27 _ _ t1754 t1755 t1762 t1763 _ ?side1 ?side2 A73.out).mono ?_); (case side1 => exact ca (Kd.R_reads' HO1757.out).2.2); (case side2 => exact (Kd.R_reads' HO1757.out).2.1); rintro e w85 ⟨v1764, rfl, ho0, hb⟩; refine ⟨_, rfl, ?_⟩; have HO1765 := Aside0.mk (Kd.R_lower (Kd.R_new' ho0 (rl_ HO1761)) (below_size (hB HB))); replace HO1757 := rb_ HO1757 hb; replace HO1761 := re_ HO1761 ho0 hb; replace HB := bst_ HB hb; clear hb ho0))
           go_ret
           exact ⟨by first | rfl | (simp [errW_none, errW_some] <;> rfl) | (simp [*, errW_none, errW_some] <;> rfl), by repeat (first | (with_reducible first | exact HB.out | apply below_alloc | apply pw_below_drewN | apply below_drew1) | exact HB.out)⟩
         rw [if_pos c74] at H
         have c74b0 : (t1759 == t1763) = true := c74
         (try (have c74b1 : decide (t1759 = t1763) = true := by simpa using c74))
         (try (have c74b2 : (t1759 == t1763) = true := by simpa using c74))
         clear c74
         replace H := Option.bind_eq_some_iff.mp H
         obtain ⟨t1766, A750, H⟩ := H
         replace H : (some t1766) = some r := H
         have A75 := Aside0.mk A750
         clear A750
         obtain rfl := Option.some.inj H
         as_aux_lemma =>
          go_wp2_with (first | ((with_reducible refine gate_callee (f := 57) rfl ?_); refine goesL_ (some 197) rfl rfl Try.func57 (by kernel_rfl) rfl #[.slice A1 l1.length c1] rfl tm_ ?_; (with_reducible refine (spec_DrawReachedBy.calls kj27 _ _ l1 t1754 t1755 _ ?side1 ?side2 A71.out).mono ?_); (case side1 => exact ca (Kd.C_below HR1.out HB.out)); (case side2 => exact HC1.out); rintro e w76 ⟨v1756, rfl, ho0, hb⟩; refine ⟨_, rfl, ?_⟩; have HO1757 := Aside0.mk (Kd.R_lower ho0 (below_size (hB HB))); replace HB := bst_ HB hb; clear hb ho0; obtain ⟨Ao77, co77, eo77⟩ := Kd.R_slice HO1757.out; subst eo77) | ((with_reducible refine gate_callee (f := 56) rfl ?_); refine goesL_ (some 203) rfl rfl Try.func56 (by kernel_rfl) rfl #[.slice Ao77 t1754.length co77, .int .i64 t1755] rfl tm_ ?_; (with_reducible refine (impl_ReachedBy.calls kj27 _ _ t1754 t1755 t1758 t1759 _ ?side1 ?side2 A72.out).mono ?_); (case side1 => exact ca (Kd.R_reads' HO1757.out).2.2); (case side2 => exact (Kd.R_reads' HO1757.out).2.1); rintro e w78 ⟨v1760, rfl, ho0, hb⟩; refine ⟨_, rfl, ?_⟩; have HO1761 := Aside0.mk (Kd.R_lower ho0 (below_size (hB HB))); replace HO1757 := rb_ HO1757 hb; replace HB := bst_ HB hb; clear hb ho0) | ((with_reducible refine gate_callee (f := 58) rfl ?_); refine goesL_ (some 209) rfl rfl Try.func58 (by kernel_rfl) rfl #[.slice Ao77 t1754.length co77, .int .i64 t1755] rfl tm_ ?_; (with_reducible refine (spec_ReachedBy.calls kj27 _ _ t1754 t1755 t1762 t1763 _ ?side1 ?side2 A73.out).mono ?_); (case side1 => exact ca (Kd.R_reads' HO1757.out).2.2); (case side2 => exact (Kd.R_reads' HO1757.out).2.1); rintro e w79 ⟨v1764, rfl, ho0, hb⟩; refine ⟨_, rfl, ?_⟩; have HO1765 := Aside0.mk (Kd.R_lower (Kd.R_new' ho0 (rl_ HO1761)) (below_size (hB HB))); replace HO1757 := rb_ HO1757 hb; replace HO1761 := re_ HO1761 ho0 hb; replace HB := bst_ HB hb; clear hb ho0; obtain ⟨Ao80, co80, eo80⟩ := Kd.R_slice HO1761.out; subst eo80; obtain ⟨Ao81, co81, eo81⟩ := Kd.R_slice HO1765.out; subst eo81) | (go_at_call 35; (with_reducible refine (laws_sameInts.calls kj27 _ _ t1758 _ _ t1762 t1766 _ ?side1 ?side2 ?side3 ?side4 A75.out).mono ?_); (case side1 => exact ca (Kd.R_reads' HO1761.out).2.2); (case side2 => exact (Kd.R_reads' HO1761.out).2.1); (case side3 => exact ca (Kd.R_reads' HO1765.out).2.2); (case side4 => exact (Kd.R_reads' HO1765.out).2.1); rintro e w' ⟨rfl, ⟨nd, rfl⟩⟩))
          go_ret
          exact ⟨by first | rfl | (simp [errW_none, errW_some] <;> rfl) | (simp [*, errW_none, errW_some] <;> rfl), by repeat (first | (with_reducible first | exact HB.out | apply below_alloc | apply pw_below_drewN | apply below_drew1) | exact HB.out)⟩

/-- THE ONE PURE STATEMENT of laws_FnPruned: yours. -/
def laws_FnPruned.Pure : Prop := ∀ (l0 : List Int) (l1 : List Int), l0.length ≤ maxLen → l0.length * 1 ≤ 140737488351232 → (∀ x ∈ l0, (Lit.int .u8 x).wf = true) → l1.length ≤ maxLen → l1.length * 1 ≤ 140737488351232 → (∀ x ∈ l1, (Lit.int .u8 x).wf = true) → ∃ k, laws_FnPruned.f k l0 l1 = some true
theorem laws_FnPruned.walk (P : laws_FnPruned.Pure) (a0 : Option Addr) (len0 cap0 : Nat) (z0 : List Int) (a1 : Option Addr) (len1 cap1 : Nat) (z1 : List Int) (w : World) (w0 : (a0 = none ∧ len0 = 0 ∧ cap0 = 0 ∧ z0 = []) ∨ ∃ x, a0 = some x ∧ len0 ≤ cap0 ∧ cap0 ≤ maxLen ∧ z0.length = cap0 ∧ (∀ i, i < z0.length → w.cell? (x.add i) = some (.int .u8 (z0.getD i 0))) ∧ ∀ n ∈ z0, (Lit.int .u8 n).wf = true) (y0 : len0 * 1 ≤ 140737488351232) (w1 : (a1 = none ∧ len1 = 0 ∧ cap1 = 0 ∧ z1 = []) ∨ ∃ x, a1 = some x ∧ len1 ≤ cap1 ∧ cap1 ≤ maxLen ∧ z1.length = cap1 ∧ (∀ i, i < z1.length → w.cell? (x.add i) = some (.int .u8 (z1.getD i 0))) ∧ ∀ n ∈ z1, (Lit.int .u8 n).wf = true) (y1 : len1 * 1 ≤ 140737488351232) :
  Calls Try.prog 7 #[.slice a0 len0 cap0, .slice a1 len1 cap1] w fun e w' => e = .returned (.bool true) ∧ Below w.heap.size w w' := by
 obtain ⟨l0, rfl, hr0, hm0, hw0, hc0⟩ := ReadsInt.ofRowC w0
 obtain ⟨l1, rfl, hr1, hm1, hw1, hc1⟩ := ReadsInt.ofRowC w1
 obtain ⟨k, h⟩ := P l0 l1 hm0 y0 hw0 hm1 y1 hw1
 refine (laws_FnPruned.calls k _ _ l0 _ _ l1 true w (Kd.C_of_reads (d := (0 : Int)) (h1 := fun _ => rfl) hr0) hc0 (Kd.C_of_reads (d := (0 : Int)) (h1 := fun _ => rfl) hr1) hc1 h).mono ?_
 rintro e w' ⟨rfl, hd⟩
 exact ⟨rfl, hd⟩

end Go.Proofs.Ytfkjnpgpofcinaa.P
