import Derived.Test.YthambdfgkfkcmaaW
import Derived.ChangeArms
import Derived.DataElems
import Derived.ProofKit
namespace Go.Proofs.Ythambdfgkfkcmaa.Q
open Go.ChangeShapes Go.WideShapes Go.RowKit Go.Proofs.YthambdfgkfkcmaaW.PrintWords
set_option linter.unusedVariables false
set_option linter.unusedSimpArgs false

/-! What can be read as data of a type is of a kind: with it a law's arguments, of any such kind, come to its printed function. -/
def Opens {α : Type} (P : Program) (d : Kd α) (t : TypeId) (G : α → Prop) : Prop :=
  ∀ (H : Type) (enc : TypeId × Value → H) (W : World) (fuel : Nat) (cs : List Value) (x : DataW H × List MemPlace), DataW.trod enc P W 0 (fun _ => true) true fuel t cs = some x → ∃ a, d.K W a cs ∧ G a
theorem opens_int {P : Program} {t : TypeId} {k : IntKind} (ht : P.underlying t = some (.int k)) : Opens P (Kd.int k) t (fun n => (Lit.int k n).wf = true) := by
  intro H enc W fuel cs x h
  obtain ⟨n, rfl, _, hw⟩ := DataW.trod_int ht h
  exact ⟨n, rfl, hw⟩
theorem opens_bool {P : Program} {t : TypeId} (ht : P.underlying t = some .bool) : Opens P Kd.bool t (fun _ => True) := by
  intro H enc W fuel cs x h
  obtain ⟨n, rfl, _⟩ := DataW.trod_bool ht h
  exact ⟨n, rfl, trivial⟩
theorem opens_string {P : Program} {t : TypeId} (ht : P.underlying t = some .string) : Opens P Kd.string t (fun s => s.size ≤ maxLen) := by
  intro H enc W fuel cs x h
  obtain ⟨n, rfl, _, hw⟩ := DataW.trod_string ht h
  exact ⟨n, rfl, hw⟩
theorem choose_list {α : Type} {Q : Nat → α → Prop} : ∀ n : Nat, (∀ i, i < n → ∃ a, Q i a) → ∃ l : List α, l.length = n ∧ ∀ i a, l[i]? = some a → Q i a
  | 0, _ => ⟨[], rfl, fun i a h => by simp at h⟩
  | n + 1, h => by
    obtain ⟨l, hl, hq⟩ := choose_list n (fun i hi => h i (by omega))
    obtain ⟨a, ha⟩ := h n (by omega)
    refine ⟨l ++ [a], by simp [hl], fun i b hb => ?_⟩
    by_cases hi : i < l.length
    · rw [List.getElem?_append_left hi] at hb; exact hq i b hb
    · rw [List.getElem?_append_right (by omega)] at hb
      have : i - l.length = 0 := by
        have := (List.getElem?_eq_some_iff.1 hb).1
        simp at this; omega
      rw [this] at hb
      simp at hb
      rw [← hb, show i = n by omega]; exact ha
theorem opens_slice {α : Type} {P : Program} {d : Kd α} {t e : TypeId} {G : α → Prop} (ht : P.underlying t = some (.slice e)) (hs : P.cellsOf e = d.sz) (h : Opens P d e G) : Opens P (Kd.slice e d) t (fun l => l.length ≤ maxLen ∧ ∀ x ∈ l, G x) := by
  intro H enc W fuel cs x hx
  rcases DataW.trod_slice ht hx with ⟨rfl, _⟩ | ⟨a, len, cap, elems, rest, n, _, rfl, _, hb, hl, hm, hlen, hel, _, _⟩
  · exact ⟨[], ⟨none, 0, rfl, Nat.le_refl _, Kd.C_nil d W⟩, by simp⟩
  · have each : ∀ i, i < len → ∃ p, (∃ c, c.length = d.sz ∧ d.K W p c ∧ ∀ j u, c[j]? = some u → W.cell? (a.add (i * d.sz + j)) = some u) ∧ G p := by
      intro i hi
      have h1 := hel i hi
      rw [List.getElem?_eq_getElem (by omega), Option.bind_eq_some_iff] at h1
      obtain ⟨c, hc, ht2⟩ := h1
      obtain ⟨p, hk, hg⟩ := h H enc W n c _ ht2
      obtain ⟨_, hcl, hcc⟩ := World.cells?_some hc
      rw [hs] at hcl hcc
      refine ⟨p, ⟨c, hcl, hk, fun j u hj => ?_⟩, hg⟩
      have hjl : j < d.sz := by have := (List.getElem?_eq_some_iff.1 hj).1; omega
      have := hcc j hjl
      rw [Addr.add_add] at this
      rw [this, hj]
    obtain ⟨l, hll, hlq⟩ := choose_list len each
    refine ⟨l, ⟨some a, cap, by rw [hll], by omega, by rfl, ?_, fun _ => ⟨a, rfl, fun j p hj => (hlq j p hj).1⟩⟩, ?_, fun x hx => ?_⟩
    · unfold maxLen at hm; omega
    · omega
    · obtain ⟨i, hi⟩ := List.getElem?_of_mem hx
      exact (hlq i x hi).2
def OpensF {α : Type} (P : Program) (d : Kd α) (fs : List (Nat × TypeId)) (o : Nat) (G : α → Prop) : Prop :=
  ∀ (H : Type) (enc : TypeId × Value → H) (W : World) (fuel : Nat) (cs : List Value), (∀ f ∈ fs, ∃ x, DataW.trod enc P W 0 (fun _ => true) true fuel f.2 ((cs.drop f.1).take (P.cellsOf f.2)) = some x) → ∃ a, d.K W a ((cs.drop o).take d.sz) ∧ G a
theorem opensF_one {α : Type} {P : Program} {d : Kd α} {t : TypeId} {o : Nat} {G : α → Prop} (hs : P.cellsOf t = d.sz) (h : Opens P d t G) : OpensF P d [(o, t)] o G := by
  intro H enc W fuel cs hf
  obtain ⟨x, hx⟩ := hf _ (List.mem_singleton.2 rfl)
  rw [hs] at hx
  exact h H enc W fuel _ x hx
theorem opensF_cons {α β : Type} {P : Program} {d : Kd α} {d2 : Kd β} {t : TypeId} {fs : List (Nat × TypeId)} {o : Nat} {G : α → Prop} {G2 : β → Prop} (hs : P.cellsOf t = d.sz) (h : Opens P d t G) (h2 : OpensF P d2 fs (o + d.sz) G2) : OpensF P (Kd.pair d d2) ((o, t) :: fs) o (fun x => G x.1 ∧ G2 x.2) := by
  intro H enc W fuel cs hf
  obtain ⟨x, hx⟩ := hf _ (List.mem_cons_self)
  rw [hs] at hx
  obtain ⟨a, ha, ga⟩ := h H enc W fuel _ x hx
  obtain ⟨b, hb, gb⟩ := h2 H enc W fuel cs (fun f hm => hf f (List.mem_cons_of_mem _ hm))
  refine ⟨(a, b), ⟨_, _, ?_, ha, hb⟩, ga, gb⟩
  show (cs.drop o).take (d.sz + d2.sz) = _
  rw [List.take_add, List.drop_drop]
theorem opens_struct {α β : Type} {P : Program} {d : Kd α} {t : TypeId} {fs : Array Field} {l : List (Nat × TypeId)} {G : α → Prop} (proj : β → α) (mk : α → β) (hmk : ∀ a, proj (mk a) = a)
    (ht : P.underlying t = some (.struct fs)) (hl : fs.toList.map (fun f => (f.offset, f.type)) = l) (hs : P.cellsOf t = d.sz) (h : OpensF P d l 0 G) : Opens P (Kd.iso d proj) t (fun b => G (proj b)) := by
  intro H enc W fuel cs x hx
  obtain ⟨xs, n, rfl, _, hcl, hxl, he⟩ := DataW.trod_struct ht hx
  obtain ⟨a, ha, ga⟩ := h H enc W n cs (fun f hm => by
    rw [← hl, List.mem_map] at hm
    obtain ⟨f', hm', rfl⟩ := hm
    obtain ⟨i, hi⟩ := List.getElem?_of_mem hm'
    have h1 := he i f' (by simpa using hi)
    have hlt : i < xs.length := by
      have := (List.getElem?_eq_some_iff.1 hi).1
      simp at this; omega
    rw [List.getElem?_eq_getElem hlt] at h1
    exact ⟨_, h1⟩)
  refine ⟨mk a, ?_, ?_⟩
  · show d.K W (proj (mk a)) cs
    rw [hmk]
    rw [List.drop_zero, ← hs, ← hcl, List.take_length] at ha
    exact ha
  · show G (proj (mk a))
    rw [hmk]; exact ga
/-- A struct that comes in by value, field by field. -/
theorem opens_agg {α : Type} {P : Program} {d : Kd α} {t : TypeId} {fs : Array Field} {l : List (Nat × TypeId)} {G : α → Prop}
    (ht : P.underlying t = some (.struct fs)) (hl : fs.toList.map (fun f => (f.offset, f.type)) = l) (hs : P.cellsOf t = d.sz) (h : OpensF P d l 0 G) : Opens P d t G := by
  intro H enc W fuel cs x hx
  obtain ⟨a, ha, ga⟩ := opens_struct (P := P) (t := t) (fun b => b) (fun b => b) (fun _ => rfl) ht hl hs h H enc W fuel cs x hx
  exact ⟨a, ha, ga⟩
/-- A slice that comes in. -/
theorem opened_slice {α H : Type} {P : Program} {d : Kd α} {t e : TypeId} {G : List α → Prop} {enc : TypeId × Value → H} {W : World} {a : Option Addr} {len cap : Nat} {x : DataW H} {ps : List MemPlace} (ho : Opens P (Kd.slice e d) t G)
    (h : DataW.Trod enc P W 0 (fun _ => true) true t (.slice a len cap) x ps) : ∃ l : List α, len = l.length ∧ l.length ≤ cap ∧ d.C W a l.length l ∧ G l := by
  obtain ⟨fuel, hf⟩ := h
  obtain ⟨l, ⟨A, c, hcs, hlc, hC⟩, hg⟩ := ho H enc W fuel _ _ hf
  have hcs2 : [Value.slice a len cap] = [Value.slice A l.length c] := by simpa [Value.cells] using hcs
  injection hcs2 with h1 _
  injection h1 with ha hl hc
  subst ha hl hc
  exact ⟨l, rfl, hlc, hC, hg⟩
end Go.Proofs.Ythambdfgkfkcmaa.Q
