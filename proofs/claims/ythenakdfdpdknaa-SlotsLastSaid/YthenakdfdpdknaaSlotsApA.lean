/- Plain facts for the statements SlotsApart, SlotsLast, SlotsTorn; conditions: those typed. -/
import Derived.Test.YthenakdfdpdknaaSlotsOld
namespace Go.Proofs.Ythenakdfdpdknaa
open Go.RowKit
set_option linter.unusedVariables false

/-- Whatever is put, sectors beyond the slot's stay. -/
theorem put_far (D : Dsk) (p m : Nat) (b : List UInt8) (x : Nat) (hx : x < p ∨ p + 12 ≤ x) : secAt (D.put (p : Int) m b).2 x = secAt D x := by
  have hto := newestW_to D p
  have hs : b.length ≤ 320 → secsOf b ≤ 5 := fun h => by unfold secsOf; omega
  unfold Dsk.put
  split
  · rfl
  · split
    · rfl
    · rename_i h3
      have hs5 := hs (by omega)
      rw [show ((p : Int)).toNat = p from rfl]
      split
      · rfl
      · split
        · exact wrs_far _ _ _ _ _ (by rcases hto with h | h <;> rw [h] <;> omega)
        · split <;> (dsimp only; rw [write_far _ _ _ _ (by rcases hto with h | h <;> rw [h] <;> omega)]; exact wrs_far _ _ _ _ _ (by rcases hto with h | h <;> rw [h] <;> omega))
theorem put_len (D : Dsk) (p m : Nat) (b : List UInt8) : (D.put (p : Int) m b).2.secs.length = D.secs.length := by
  unfold Dsk.put
  split
  · rfl
  · split
    · rfl
    · split
      · rfl
      · split
        · exact wrs_len _ _ _ _
        · split <;> (dsimp only; rw [Dsk.write_len]; exact wrs_len _ _ _ _)
theorem put_fine {D : Dsk} {k : Int} (h : D.fine k) (p m : Nat) (b : List UInt8) : (D.put (p : Int) m b).2.fine (k + 6) := by
  unfold Dsk.put
  split
  · exact h.mono (by omega)
  · split
    · exact h.mono (by omega)
    · rename_i h3
      have hs5 : secsOf b ≤ 5 := by unfold secsOf; omega
      split
      · exact h.mono (by omega)
      · split
        · exact (wrs_fine h _ _ _).mono (by omega)
        · split <;> exact ((wrs_fine h _ _ _).write _ _).mono (by omega)

/-- Three slots, of which the first i have got a record. -/
structure ApSt (lF : Nat → List UInt8) (D : Dsk) (i : Nat) : Prop where
  good : D.good
  blown : D.blown = false
  left : D.left = -1
  fine : D.fine (6 * i)
  len : D.secs.length = 36
  at_ : ∀ k, k < 3 → (newestW D (12 * k)).1 = if k < i then (k + 5, lF k) else (0, [])
theorem ApSt.start (lF : Nat → List UInt8) : ApSt lF (newD 36) 0 :=
  ⟨newD_good 36, rfl, rfl, newD_fine 36, newD_len 36, fun k hk => by rw [newD_newest, if_neg (by omega)]⟩
theorem ApSt.step {lF : Nat → List UInt8} {D : Dsk} {i : Nat} (h : ApSt lF D i) (hi : i < 3) (hl : (lF i).length ≤ 320) : ∃ D', D.put ((12 * i : Nat) : Int) (i + 5) (lF i) = (0, D') ∧ ApSt lF D' (i + 1) := by
  have ha := h.at_ i hi
  rw [if_neg (by omega)] at ha
  obtain ⟨h1, h2⟩ := put_full h.good (12 * i) (i + 5) (lF i) (by rw [h.len]; omega) hl (by omega) (by rw [ha]; show 0 < i + 5; omega) (free_room h.blown h.left _)
  refine ⟨_, Prod.ext h1 rfl, h2.good, h2.blown, h2.free h.left, (h2.fine h.fine hl).mono (by push_cast; omega), h2.len.trans h.len, fun k hk => ?_⟩
  by_cases hki : k = i
  · subst hki
    rw [h2.new, if_pos (by omega)]
  · rw [newestW_same (D := D) (12 * k) (fun x hx => h2.far _ (by omega)), h.at_ k hk]
    by_cases hk2 : k < i
    · rw [if_pos hk2, if_pos (by omega)]
    · rw [if_neg hk2, if_neg (by omega)]
/-- The copy's disk. -/
def copyD (D : Dsk) : Dsk := ⟨D.secs, -1, false, 0⟩
theorem copyD_sec (D : Dsk) (x : Nat) : secAt (copyD D) x = secAt D x := rfl
theorem copyD_newest (D : Dsk) (p : Nat) : newestW (copyD D) p = newestW D p := newestW_same p (fun _ _ => rfl)
/-- What stands in the neighbours of a slot in which anything was put. -/
theorem ApSt.behind {lF : Nat → List UInt8} {D : Dsk} (h : ApSt lF D 3) (n : Int) (m : Nat) (b : List UInt8) (k : Nat) (hk : k = 0 ∨ k = 2) : (copyD ((({ D with left := n } : Dsk).put ((12 : Nat) : Int) m b).2)).get ((12 * k : Nat) : Int) = (k + 5, lF k, 0) := by
  have hlen : (copyD ((({ D with left := n } : Dsk).put ((12 : Nat) : Int) m b).2)).secs.length = 36 := by
    show ((({ D with left := n } : Dsk).put ((12 : Nat) : Int) m b).2).secs.length = 36
    rw [put_len]; exact h.len
  rw [get_is _ (by rw [hlen]; omega), copyD_newest]
  have e : newestW ((({ D with left := n } : Dsk).put ((12 : Nat) : Int) m b).2) (12 * k) = newestW D (12 * k) := newestW_same (D := D) _ (fun x hx => by
    rw [put_far _ _ _ _ _ (by omega)]; rfl)
  have := h.at_ k (by omega)
  rw [if_pos (by omega)] at this
  rw [e, this]
theorem copy_disk' (bd bl : Nat) (D : Dsk) (w : World) (h : IsDisk w bd bl D) :
    Calls Try.prog 14 #[.pointer (some ⟨bd, 0, none⟩)] w fun e w' => ∃ cd cl, e = .returned (.tuple #[.pointer (some ⟨cd, 0, none⟩), .int .i64 0]) ∧ Below w.heap.size w w' ∧ w.heap.size ≤ cd ∧ w.heap.size ≤ cl ∧ IsDisk w' cd cl (copyD D) := copy_disk bd bl D w h

/-- Three slices of bytes in an array. -/
structure Bs3 (w : World) (bz : Nat) (aF : Nat → Option Addr) (cF : Nat → Nat) (lF : Nat → List UInt8) : Prop where
  cell : ∀ i, i < 3 → w.cell? ⟨bz, i, none⟩ = some (.slice (aF i) (lF i).length (cF i))
  is : ∀ i, i < 3 → IsB w (aF i) (lF i).length (cF i) (lF i)
  lt : bz < w.heap.size
theorem Bs3.touch {S : Nat → Prop} {w w' : World} {bz : Nat} {aF : Nat → Option Addr} {cF : Nat → Nat} {lF : Nat → List UInt8} (h : Bs3 w bz aF cF lF) (ht : Touch S w w') (hz : ¬ S bz) (hs : ∀ i, i < 3 → ∀ x off, aF i = some ⟨x, off, none⟩ → lF i ≠ [] → ¬ S x) : Bs3 w' bz aF cF lF :=
  ⟨fun i hi => ht.cell (h.cell i hi) hz, fun i hi => (h.is i hi).touch ht (hs i hi), Nat.lt_of_lt_of_le h.lt ht.size⟩
theorem Bs3.below {w w' : World} {bz : Nat} {aF : Nat → Option Addr} {cF : Nat → Nat} {lF : Nat → List UInt8} (h : Bs3 w bz aF cF lF) (hb : Below w.heap.size w w') : Bs3 w' bz aF cF lF := h.touch (Touch.of_below (S := fun _ => False) hb) id (fun _ _ _ _ _ _ => id)

end Go.Proofs.Ythenakdfdpdknaa
