/- The package slots: Get; conditions: those typed. -/
import Derived.Test.YthenakdfdpdknaaSlotsPut
import Derived.Deep.RegionHeld3
namespace Go.Proofs.Ythenakdfdpdknaa
open Go.RowKit
set_option linter.unusedVariables false

/-- What Get answers. -/
def Dsk.get (D : Dsk) (p : Int) : Nat × List UInt8 × Int := if p < 0 ∨ (D.secs.length : Int) - 12 < p then (0, [], 1) else ((newestW D p.toNat).1.1, (newestW D p.toNat).1.2, 0)

theorem get_nil (p : Int) (w : World) : Calls Try.prog 10 #[.pointer none, .int .i64 p] w fun e w' => e = .returned (.tuple #[.int .u32 0, .slice none 0 0, .int .i64 2]) ∧ w = w' := by
  go_enter Try.func10, Try.ntmps10
  go_wp2_with (go_at_call 16; refine (no_nil _).mono ?_; rintro e w' ⟨rfl, rfl⟩)
  go_ret3
  exact ⟨rfl, rfl⟩

theorem place_short (D : Dsk) (p : Nat) (h : (run5 D p 5).length = 320) : (place D p).2.length ≤ 320 := by
  unfold place
  split
  · simp
  · split
    · simp; omega
    · simp
theorem newestW_short {w : World} {bd bl : Nat} {D : Dsk} (h : IsDisk w bd bl D) (p : Nat) (hp : p + 12 ≤ D.secs.length) : (newestW D p).1.2.length ≤ 320 := by
  have h1 := place_short D p (run5_length h p 5 (by omega))
  have h2 := place_short D (p + 6) (run5_length h (p + 6) 5 (by omega))
  unfold newestW
  split
  · exact h2
  · split
    · exact h1
    · simp

set_option maxHeartbeats 4000000 in
theorem get_any (bd bl : Nat) (D : Dsk) (p : Int) (w : World) (h : IsDisk w bd bl D) :
    Calls Try.prog 10 #[.pointer (some ⟨bd, 0, none⟩), .int .i64 p] w fun e w' => ∃ a, e = .returned (.tuple #[.int .u32 (D.get p).1, .slice a (D.get p).2.1.length (D.get p).2.1.length, .int .i64 (D.get p).2.2]) ∧ Below w.heap.size w w' ∧ IsB w' a (D.get p).2.1.length (D.get p).2.1.length (D.get p).2.1 := by
  have hm := h.most
  have hp := h.pos
  by_cases hr : p < 0 ∨ (D.secs.length : Int) - 12 < p
  · have hpl : D.get p = (0, [], 1) := if_pos hr
    rw [hpl]
    have d2 : decide (¬ (p < 0 ∨ (D.secs.length : Int) - 12 < p)) = false := decide_eq_false (fun h => h hr)
    clear hpl hr
    go_enter Try.func10, Try.ntmps10
    go_wp2_with (first
      | (go_at_call 16; refine (no_disk bd bl D _ h).mono ?_; rintro e w' ⟨rfl, rfl⟩)
      | (go_at_call 17; refine (there_slot bd bl D p _ h).mono ?_; rintro e w' ⟨rfl, rfl⟩; rw [d2])
      | fail)
    go_ret3
    exact ⟨none, rfl, Below.refl _ _, IsB.nil _⟩
  have d2 : decide (¬ (p < 0 ∨ (D.secs.length : Int) - 12 < p)) = true := decide_eq_true hr
  obtain ⟨q, rfl⟩ : ∃ q : Nat, p = (q : Int) := ⟨p.toNat, by omega⟩
  have hq : q + 12 ≤ D.secs.length := by omega
  have hpl : D.get (q : Int) = ((newestW D q).1.1, (newestW D q).1.2, 0) := if_neg hr
  rw [hpl]
  have hsh := newestW_short h q hq
  have HNEW : Hid (∀ w, IsDisk w bd bl D → Calls Try.prog 18 #[.pointer (some ⟨bd, 0, none⟩), .int .i64 (q : Int)] w fun e w' => ∃ a c, e = .returned (.tuple #[.agg #[.int .u32 (newestW D q).1.1, .slice a (newestW D q).1.2.length c], .int .i64 (newestW D q).2]) ∧ Below w.heap.size w w' ∧ IsB w' a (newestW D q).1.2.length c (newestW D q).1.2) := Lib.hid (fun w h => newest_any bd bl D q (q : Int) w h rfl hq)
  generalize newestW D q = x at HNEW hsh
  obtain ⟨⟨xn, xb⟩, to⟩ := x
  dsimp only at HNEW hsh ⊢
  clear hpl hr hp
  go_enter Try.func10, Try.ntmps10
  go_wp2_with (first
    | (go_at_call 16; refine (no_disk bd bl D _ h).mono ?_; rintro e w' ⟨rfl, rfl⟩)
    | (go_at_call 17; refine (there_slot bd bl D _ _ h).mono ?_; rintro e w' ⟨rfl, rfl⟩; rw [d2])
    | fail)
  refine (HNEW.out w h).mono ?_; rintro e w1 ⟨xa, xc, rfl, hb1, hi1⟩
  dsimp only at hi1 ⊢
  have hbe : Below w.heap.size w (w1.alloc (.cells #[.int .u32 xn, .slice xa xb.length xc] 52)) := hb1.alloc hb1.size _
  have hv := heap_new w1 (.cells #[.int .u32 xn, .slice xa xb.length xc] 52 (0, 0))
  have hi2 := hi1.below ((Below.refl w1.heap.size w1).alloc (Nat.le_refl _) (.cells #[.int .u32 xn, .slice xa xb.length xc] 52 (0, 0)))
  have hw1s := hb1.size
  clear HNEW hi1 hb1
  go_wp2_with fail
  generalize w1.alloc (.cells #[.int .u32 xn, .slice xa xb.length xc] 52) = w2 at hbe hv hi2 ⊢
  have f0 : w2.cell? ⟨w1.heap.size, 0, none⟩ = some (.int .u32 xn) := by rw [cell_of_block hv]; rfl
  have f1 : w2.cell? ⟨w1.heap.size, 1, none⟩ = some (.slice xa xb.length xc) := by rw [cell_of_block hv]; rfl
  have hd0 := (Below.refl w2.heap.size w2).drew
  go_region_held3 (fun w' => w'.cell? ⟨w1.heap.size, 0, none⟩ = some (.int .u32 xn) ∧ w'.cell? ⟨w1.heap.size, 1, none⟩ = some (.slice xa xb.length xc)) (first
      | with_reducible exact ⟨cell_later hB3 f0, cell_later hB3 f1⟩
      | with_reducible exact ⟨cell_later hd0 f0, cell_later hd0 f1⟩) (first
    | (go_at_call 22; ((with_reducible refine (sclone_any xa xb.length xc xb w2.drew (hi2.below hd0) (by omega)).mono ?_); rintro e w3 ⟨ya, yc, rfl, hb3, hi3, _⟩; have hB3 : Below w2.heap.size w2 w3 := hd0.trans (hb3.mono hd0.size)))
    | (go_at_call 21; ((refine (clip_any ya xb.length yc w3 hi3.2.1 hi3.2.2.1 hi3.noneCap).mono ?_); rintro e w4 ⟨rfl, rfl⟩))
    | fail)
  go_wp2_with fail
  go_ret3
  exact ⟨ya, rfl, hbe.trans (hB3.mono hbe.size), hi3.clip⟩

end Go.Proofs.Ythenakdfdpdknaa
