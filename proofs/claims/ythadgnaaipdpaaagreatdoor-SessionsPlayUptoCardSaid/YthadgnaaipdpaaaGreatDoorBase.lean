/- Lemmas of our own on memory and bytes; no condition. -/
import Derived.Test.YthadgnaaipdpaaaGreatDoorRows
import Derived.WalkKit
import Derived.WalkSpells
import Derived.WalkLawsBesides
import Derived.Lib.Hide
import Derived.Lib.SlBytesConst
import Derived.Deep.QuietTactic
import Derived.BigQuiet
import Derived.ProofKit
import Derived.OpenShut
import Derived.ChangeOld
import Derived.Below
namespace Go.Proofs.YthadgnaaipdpaaaGreatDoor
open Go.RowKit Go.ChangeShapes Go.WideShapes Go.ChangeAt
set_option linter.unusedVariables false

theorem u8_lt (c : UInt8) : (c.toNat : Int) < 256 := by have := c.toNat_lt; omega

/-- A slice of bytes that reads as a list. -/
def IsB (w : World) (a : Option Addr) (n c : Nat) (l : List UInt8) : Prop :=
  n = l.length ∧ l.length ≤ c ∧ c ≤ maxLen ∧ ((l = [] ∧ (a = none → c = 0)) ∨ ∃ b off, a = some ⟨b, off, none⟩ ∧ b < w.heap.size ∧ ∀ i (h : i < l.length), w.cell? ⟨b, off + i, none⟩ = some (.int .u8 l[i].toNat))

theorem cell_of_block {w : World} {b : Nat} {C : Array Value} {e : TypeId} {fz : Nat × Nat} (h : w.heap[b]? = some (.cells C e fz)) (i : Nat) : w.cell? ⟨b, i, none⟩ = C[i]? := by
  simp [World.cell?, h]

theorem heap_new (w : World) (o : Obj) : (w.alloc o).heap[w.heap.size]? = some o := by
  show (w.heap.push o)[w.heap.size]? = _
  simp

theorem IsB.nil (w : World) : IsB w none 0 0 [] := ⟨rfl, Nat.le_refl _, by decide, .inl ⟨rfl, fun _ => rfl⟩⟩

/-- A fresh row of bytes reads as its list. -/
theorem IsB.fresh (w : World) (l : List UInt8) (C : Array Value) (e : TypeId) (fz : Nat × Nat) (hC : C = (l.map fun b => Value.int .u8 b.toNat).toArray) (n c : Nat) (hn : n = l.length) (hc : c = l.length) (hm : l.length ≤ maxLen) :
    IsB (w.alloc (.cells C e fz)) (some ⟨w.heap.size, 0, none⟩) n c l := by
  subst hC
  refine ⟨hn, by omega, by omega, .inr ⟨_, _, rfl, by simp, fun i h => ?_⟩⟩
  rw [cell_of_block (heap_new w _)]
  simp [h]

theorem IsB.below {w w' : World} {a : Option Addr} {n c : Nat} {l : List UInt8} (h : IsB w a n c l) (hb : Below w.heap.size w w') : IsB w' a n c l := by
  obtain ⟨h1, h2, h3, h4 | ⟨b, off, rfl, hlt, hc⟩⟩ := h
  · exact ⟨h1, h2, h3, .inl h4⟩
  · exact ⟨h1, h2, h3, .inr ⟨b, off, rfl, Nat.lt_of_lt_of_le hlt hb.size, fun i hi => (hb.cell (p := ⟨b, off + i, none⟩) hlt).trans (hc i hi)⟩⟩

/-- bytes as cells -/
def bcells (l : List UInt8) : List Value := l.map fun b => Value.int .u8 b.toNat

theorem bcells_length (l : List UInt8) : (bcells l).length = l.length := by simp [bcells]

theorem bcells_snoc (l : List UInt8) (k : Nat) (h : k < l.length) : bcells (l.take (k + 1)) = bcells (l.take k) ++ [.int .u8 l[k].toNat] := by
  unfold bcells
  rw [List.take_succ_eq_append_getElem h, List.map_append]; rfl

theorem one_at (w : World) (v : Value) (e : TypeId) : ∀ j u, [v][j]? = some u → (w.alloc (.cells #[v] e)).cell? ((⟨w.heap.size, 0, none⟩ : Addr).add j) = some u := by
  intro j u h
  match j, h with
  | 0, h => simp at h; subst h; simp [Addr.add]

theorem one_cell (v : Value) (h : v.oneCell' = true) : ∀ u ∈ [v], u.oneCell' = true := by
  intro u hu; simp at hu; subst hu; exact h

theorem cells_of_owns {w : World} {B e g n c : Nat} {xs : List Value} (h : w.ownsRow B e 1 (.slice (some ⟨g, 0, none⟩) n c) n xs) (i : Nat) (v : Value) (hv : xs[i]? = some v) : w.cell? ⟨g, i, none⟩ = some v := by
  have := h.cells (g := g) rfl i v hv
  by_cases hi : i = 0
  · subst hi; simpa [Addr.add] using this
  · simpa [Addr.add, hi] using this

theorem u8_of_int (zs : List Int) (h : ∀ n ∈ zs, (Lit.int .u8 n).wf = true) : ∃ l : List UInt8, l.length = zs.length ∧ ∀ i (hi : i < l.length), (l[i].toNat : Int) = zs.getD i 0 := by
  refine ⟨zs.map fun n => UInt8.ofNat n.toNat, by simp, fun i hi => ?_⟩
  have hi' : i < zs.length := by simpa using hi
  have hw := h zs[i] (List.getElem_mem hi')
  simp [Lit.wf, IntKind.min, IntKind.max, IntKind.signed, IntKind.bits] at hw
  simp [hi']
  omega

/-- What 'open_ints' hands over of a slice of bytes, as a list. -/
theorem isB_of_ints {W : World} {a : Option Addr} {m c : Nat} (x : Addr) (zs : List Int) (ha : a = some x) (hl : m ≤ c) (hm : c ≤ maxLen) (hz : zs.length = c)
    (hcell : ∀ i, i < zs.length → W.cell? (x.add i) = some (.int .u8 (zs.getD i 0))) (hwz : ∀ n ∈ zs, (Lit.int .u8 n).wf = true) : ∃ l, IsB W a m c l := by
  subst ha
  by_cases h0 : m = 0
  · subst h0
    exact ⟨[], rfl, Nat.zero_le _, hm, .inl ⟨rfl, fun h => by cases h⟩⟩
  obtain ⟨l, hll, hlv⟩ := u8_of_int zs hwz
  obtain ⟨b, off, spot⟩ := x
  have hc0 := hcell 0 (by omega)
  have hspot : spot = none := by simpa [Addr.add] using World.cell?_spot hc0
  subst hspot
  refine ⟨l.take m, by simp; omega, by simp; omega, hm, .inr ⟨b, off, rfl, ?_, fun i hi => ?_⟩⟩
  · have hb := hc0
    simp only [Addr.add, World.cell?] at hb
    rcases Nat.lt_or_ge b W.heap.size with h | h
    · exact h
    · simp [Array.getElem?_eq_none h] at hb
  · have him : i < m := by simp at hi; omega
    have := hcell i (by omega)
    rw [← hlv i (by omega)] at this
    by_cases hi0 : i = 0
    · subst hi0; simpa [Addr.add] using this
    · simpa [Addr.add, hi0] using this

theorem isB_nil (W : World) : IsB W none 0 0 [] := ⟨rfl, Nat.le_refl _, by decide, .inl ⟨rfl, fun _ => rfl⟩⟩

end Go.Proofs.YthadgnaaipdpaaaGreatDoor
