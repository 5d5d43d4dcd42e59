/- Both disks in a play: fuses and copies; conditions: those typed. -/
import Derived.Test.YtppmpgkkegldnaaDoorPlayS
namespace Go.Proofs.YtppmpgkkegldnaaDoor
open Go.RowKit
set_option linter.unusedVariables false
set_option linter.unusedSimpArgs false
set_option maxRecDepth 100000

/-- What a fuse is answered. -/
def fcode (b : Bool) : Int := if b then 8 else 0
theorem dfuse_any (bd bl : Nat) (D : Dsk) (n : Int) (w : World) (h : IsDisk w bd bl D) :
    Calls Tryd.prog 12 #[.pointer (some ⟨bd, 0, none⟩), .int .i64 n] w fun e w' => e = .returned (.int .i64 (fcode D.blown)) ∧ Touch (fun k => k = bd ∨ k = bl) w w' ∧ IsDisk w' bd bl (if D.blown then D else { D with left := n }) := by
  cases hB : D.blown
  · exact (fuse_ok bd bl D n w h hB).mono fun e w' h => ⟨h.1, h.2.1.weaken (fun k _ hk => .inl hk), by rw [hB] at h; exact h.2.2⟩
  · exact (fuse_blown bd bl D n w h hB).mono fun e w' h' => by
      obtain ⟨h1, rfl⟩ := h'
      exact ⟨h1, Touch.refl _ _, h⟩
theorem rfuse_c (B rd rl rc : Nat) (R : Dsk) (n : Int) (w : World) (h : IsRef w B rd rl rc R) :
    Calls Tryd.prog 13 #[.pointer (some ⟨rd, 0, none⟩), .int .i64 n] w fun e w' => e = .returned (.int .i64 (fcode R.blown)) ∧ Touch (fun k => k = rd) w w' ∧ IsRef w' B rd rl rc (if R.blown then R else { R with left := max (-1) n }) := rfuse_any B rd rl rc R n w h
theorem Same.fuses {D R : Dsk} (h : Same D R) (n : Int) : Same (if D.blown then D else { D with left := n }) (if R.blown then R else { R with left := max (-1) n }) := by
  have e : R.blown = D.blown := h.2.1
  by_cases hb : D.blown = true
  · rw [if_pos hb, if_pos (e.trans hb)]; exact h
  · rw [if_neg hb, if_neg (fun h => hb (e.symm.trans h))]; exact h.fuse n
theorem fuse_left (D R : Dsk) (n : Int) (h : D.left ≤ 9223372036854775807 ∧ R.left ≤ 9223372036854775807) (hn : n ≤ 9223372036854775807) : (if D.blown then D else { D with left := n }).left ≤ 9223372036854775807 ∧ (if R.blown then R else { R with left := max (-1) n }).left ≤ 9223372036854775807 := by
  constructor
  · by_cases hb : D.blown = true
    · rw [if_pos hb]; exact h.1
    · rw [if_neg hb]; exact hn
  · by_cases hb : R.blown = true
    · rw [if_pos hb]; exact h.2
    · rw [if_neg hb]; dsimp only; omega
theorem one_isB (w : World) : IsB (w.alloc (.cells #[.int .u8 1] 5)) (some ⟨w.heap.size, 0, none⟩) 1 1 [1] := IsB.fresh w [1] _ 5 (0, 0) rfl 1 1 rfl rfl (by decide)

theorem PSt.copied {W w w3 w4 w5 w6 : World} {bd bl rd rl rc bk N cd cl sd sl sc : Nat} {bs : Value} {D R : Dsk} {H : List Hl} (h : PSt W w bd bl rd rl rc bk N bs D R H) (hb : Below w.heap.size w w3) (g1 : w.heap.size ≤ cd) (g2 : w.heap.size ≤ cl) (hc : IsDisk w3 cd cl ⟨D.secs, -1, false, 0⟩)
    (hb4 : Below w3.heap.size w3 w4) (ht : Touch (fun k => k = bd ∨ k = bl) w4 w5) (hb6 : Below w5.heap.size w5 w6) (hr : IsRef w6 w5.heap.size sd sl sc ⟨R.secs, -1, false, 0⟩) :
    PSt W w6 cd cl sd sl sc bk N bs ⟨D.secs, -1, false, 0⟩ ⟨R.secs, -1, false, 0⟩ H := by
  have h4 := (h.after hb).after hb4
  have hl := h.disk.lt
  have hcl := hc.lt
  have hc4 := hc.touch (Touch.of_below (S := fun _ => False) hb4) id id
  have hc5 := hc4.touch ht (by omega) (by omega)
  have hb5 : Below W.heap.size W w5 := h4.below.trans (ht.below h4.below.size (fun k hk e => by have := h.dge; omega))
  have hW := h.below.size
  exact ⟨hb5.trans (hb6.mono hb5.size), hc5.touch (Touch.of_below (S := fun _ => False) hb6) id id, ⟨by omega, by omega⟩, hr.lower hb5.size, (h4.book.touch ht (other_disk h4.disk)).below hb6, ⟨h.same.1, rfl, rfl, .inl rfl⟩, ⟨by dsimp only; omega, by dsimp only; omega⟩, h.small⟩

end Go.Proofs.YtppmpgkkegldnaaDoor
