/- Rows of bytes, and lists of lists of bytes, in memory: laws of our own; no condition. -/
import Derived.Test.YthadgnaaipdpaaaGreatDoorHeap
namespace Go.Proofs.YthadgnaaipdpaaaGreatDoor
open Go.RowKit
set_option linter.unusedVariables false

theorem infoU8 : (Tryz.prog.info? 5).map (fun i => (i.zero, i.size, i.bytes)) = some (some (.int .u8 0), 1, 1) := by kernel_rfl
theorem rowU8 : RowTy Tryz.prog 24 5 1 1 (.int .u8 0) := ⟨Tryz.underlying24, infoU8, rfl, by decide⟩
theorem infoBs : (Tryz.prog.info? 24).map (fun i => (i.zero, i.size, i.bytes)) = some (some (.slice none 0 0), 1, 24) := by kernel_rfl
theorem rowBs : RowTy Tryz.prog 23 24 1 24 (.slice none 0 0) := ⟨Tryz.underlying23, infoBs, rfl, by decide⟩

/-- A value that is a slice of bytes, its memory from B on. -/
def ReadAs (w : World) (B : Nat) (u : Value) (l : List UInt8) : Prop := ∃ a n c, u = .slice a n c ∧ IsB w a n c l ∧ ∀ b off, a = some ⟨b, off, none⟩ → l ≠ [] → B ≤ b
theorem ReadAs.touch {S : Nat → Prop} {w w' : World} {B : Nat} {u : Value} {l : List UInt8} (h : ReadAs w B u l) (ht : Touch S w w') (hs : ∀ k, B ≤ k → ¬ S k) : ReadAs w' B u l := by
  obtain ⟨a, n, c, rfl, hb, hB⟩ := h
  exact ⟨a, n, c, rfl, hb.touch ht (fun b off ha hl => hs b (hB b off ha hl)), hB⟩
theorem ReadAs.below {w w' : World} {B : Nat} {u : Value} {l : List UInt8} (h : ReadAs w B u l) (hb : Below w.heap.size w w') : ReadAs w' B u l := h.touch (Touch.of_below (S := fun _ => False) hb) (fun _ _ => id)

/-- A slice of slices of bytes, its memory from B on. -/
def IsBB (w : World) (B : Nat) (a : Option Addr) (n c : Nat) (L : List (List UInt8)) : Prop :=
  n = L.length ∧ L.length ≤ c ∧ c ≤ maxLen ∧ (L = [] ∨ ∃ b off, a = some ⟨b, off, none⟩ ∧ B ≤ b ∧ b < w.heap.size ∧ ∀ i (h : i < L.length), ∃ u, w.cell? ⟨b, off + i, none⟩ = some u ∧ ReadAs w B u L[i])
theorem IsBB.touch {S : Nat → Prop} {w w' : World} {B : Nat} {a : Option Addr} {n c : Nat} {L : List (List UInt8)} (h : IsBB w B a n c L) (ht : Touch S w w') (hs : ∀ k, B ≤ k → ¬ S k) : IsBB w' B a n c L := by
  obtain ⟨h1, h2, h3, h4 | ⟨b, off, rfl, hB, hlt, hc⟩⟩ := h
  · exact ⟨h1, h2, h3, .inl h4⟩
  · refine ⟨h1, h2, h3, .inr ⟨b, off, rfl, hB, Nat.lt_of_lt_of_le hlt ht.size, fun i hi => ?_⟩⟩
    obtain ⟨u, hu, hr⟩ := hc i hi
    exact ⟨u, ht.cell hu (hs b hB), hr.touch ht hs⟩
theorem IsBB.below {w w' : World} {B : Nat} {a : Option Addr} {n c : Nat} {L : List (List UInt8)} (h : IsBB w B a n c L) (hb : Below w.heap.size w w') : IsBB w' B a n c L := h.touch (Touch.of_below (S := fun _ => False) hb) (fun _ _ => id)

theorem owns_touch {S : Nat → Prop} {w w' : World} {B e sz n : Nat} {v : Value} {xs : List Value} (h : w.ownsRow B e sz v n xs) (ht : Touch S w w') (hs : ∀ k, v.ownBlock = some k → ¬ S k) : w'.ownsRow B e sz v n xs := by
  refine ⟨h.1, ?_⟩
  rcases h.2 with h0 | ⟨g, cap, cur, hv, hb, hg, h3⟩
  · exact .inl h0
  · exact .inr ⟨g, cap, cur, hv, hb, ht.heap hg (hs g (by rw [hv]; rfl)), h3⟩
theorem owns_below {w w' : World} {B e sz n : Nat} {v : Value} {xs : List Value} (h : w.ownsRow B e sz v n xs) (hb : Below w.heap.size w w') : w'.ownsRow B e sz v n xs := owns_touch h (Touch.of_below (S := fun _ => False) hb) (fun _ _ => id)
theorem owns_block {w : World} {B e sz n : Nat} {v : Value} {xs : List Value} (h : w.ownsRow B e sz v n xs) {k : Nat} (hk : v.ownBlock = some k) : ∃ cur, w.heap[k]? = some (.cells cur e) := by
  rcases h.2 with ⟨rfl, _⟩ | ⟨g, cap, cur, rfl, hb, hg, h3⟩
  · cases hk
  · cases hk; exact ⟨cur, hg⟩

end Go.Proofs.YthadgnaaipdpaaaGreatDoor
