/- The package slots: Put; conditions: those typed. -/
import Derived.Test.YthenakdfdpdknaaSlotsN
import Derived.Test.YthenakdfdpdknaaDisksN
namespace Go.Proofs.Ythenakdfdpdknaa
open Go.RowKit
set_option linter.unusedVariables false

def Dsk.fine (D : Dsk) (k : Int) : Prop := 0 ≤ D.writes ∧ D.writes ≤ k ∧ D.left ≤ 4294967296
theorem Dsk.fine.ok {D : Dsk} {k : Int} (h : D.fine k) (hk : k ≤ 1000000000) : D.ok := ⟨h.1, by have := h.2.1; omega, by have := h.2.2; omega⟩
theorem Dsk.fine.write {D : Dsk} {k : Int} (h : D.fine k) (n : Int) (b : List UInt8) : (D.write n b).2.fine (k + 1) := by
  obtain ⟨h1, h2, h3⟩ := h
  unfold Dsk.write
  split
  · exact ⟨h1, by dsimp only; omega, h3⟩
  · split
    · exact ⟨h1, by dsimp only; omega, h3⟩
    · refine ⟨by dsimp only; omega, by dsimp only; omega, ?_⟩
      dsimp only
      split <;> omega
theorem Dsk.fine.mono {D : Dsk} {k k' : Int} (h : D.fine k) (hk : k ≤ k') : D.fine k' := ⟨h.1, Int.le_trans h.2.1 hk, h.2.2⟩
theorem Dsk.write_len (D : Dsk) (n : Int) (b : List UInt8) : (D.write n b).2.secs.length = D.secs.length := by
  unfold Dsk.write
  split
  · rfl
  · split
    · rfl
    · simp

def chunk (b : List UInt8) (j : Nat) : List UInt8 := (b.drop (64 * j)).take 64
/-- The first j sectors of a record are written; the first error stands. -/
def wrs (D : Dsk) (to : Nat) (b : List UInt8) : Nat → Int × Dsk
  | 0 => (0, D)
  | j + 1 => if (wrs D to b j).1 ≠ 0 then wrs D to b j else (wrs D to b j).2.write ((to + j : Nat) : Int) (chunk b j)
theorem wrs_stuck (D : Dsk) (to : Nat) (b : List UInt8) (j i : Nat) (h : (wrs D to b j).1 ≠ 0) : wrs D to b (j + i) = wrs D to b j := by
  induction i with
  | zero => rfl
  | succ i ih =>
    show (if (wrs D to b (j + i)).1 ≠ 0 then _ else _) = _
    rw [if_pos (by rw [ih]; exact h)]; exact ih
theorem wrs_fine {D : Dsk} {k : Int} (h : D.fine k) (to : Nat) (b : List UInt8) (j : Nat) : (wrs D to b j).2.fine (k + j) := by
  induction j with
  | zero => exact h.mono (by simp)
  | succ j ih =>
    show (if (wrs D to b j).1 ≠ 0 then _ else _ : Int × Dsk).2.fine _
    split
    · exact ih.mono (by push_cast; omega)
    · have := ih.write ((to + j : Nat) : Int) (chunk b j)
      refine this.mono (by push_cast; omega)
theorem wrs_len (D : Dsk) (to : Nat) (b : List UInt8) (j : Nat) : (wrs D to b j).2.secs.length = D.secs.length := by
  induction j with
  | zero => rfl
  | succ j ih =>
    show (if (wrs D to b j).1 ≠ 0 then _ else _ : Int × Dsk).2.secs.length = _
    split
    · exact ih
    · rw [Dsk.write_len]; exact ih
/-- How many sectors a record's bytes need. -/
def secsOf (b : List UInt8) : Nat := (b.length + 63) / 64
/-- What Put answers, and what it leaves. -/
def Dsk.put (D : Dsk) (p : Int) (num : Nat) (b : List UInt8) : Int × Dsk :=
  if p < 0 ∨ (D.secs.length : Int) - 12 < p then (1, D) else
  if 320 < b.length then (3, D) else
  if num ≤ (newestW D p.toNat).1.1 then (10, D) else
  if (wrs D (newestW D p.toNat).2 b (secsOf b)).1 ≠ 0 then (8, (wrs D (newestW D p.toNat).2 b (secsOf b)).2) else
  if ((wrs D (newestW D p.toNat).2 b (secsOf b)).2.write ((newestW D p.toNat).2 + 5 : Nat) (mkB num b)).1 ≠ 0 then (8, ((wrs D (newestW D p.toNat).2 b (secsOf b)).2.write ((newestW D p.toNat).2 + 5 : Nat) (mkB num b)).2) else
  (0, ((wrs D (newestW D p.toNat).2 b (secsOf b)).2.write ((newestW D p.toNat).2 + 5 : Nat) (mkB num b)).2)

theorem room_any (w : World) : Calls Try.prog 15 #[] w fun e w' => e = .returned (.int .i64 12) ∧ w = w' := by
  go_enter Try.func15, Try.ntmps15
  go_wp2
  go_ret
  exact ⟨rfl, rfl⟩
theorem no_disk (bd bl : Nat) (D : Dsk) (w : World) (h : IsDisk w bd bl D) : Calls Try.prog 16 #[.pointer (some ⟨bd, 0, none⟩)] w fun e w' => e = .returned (.bool false) ∧ w = w' := by
  have hp : ((D.secs.length : Int) == 0) = false := by rw [beq_eq_false_iff_ne]; have := h.pos; omega
  go_enter Try.func16, Try.ntmps16
  go_wp2_with (go_at_call 23; refine (len_disk bd bl D _ h).mono ?_; rintro e w' ⟨rfl, rfl⟩)
  go_ret
  exact ⟨rfl, rfl⟩
theorem no_nil (w : World) : Calls Try.prog 16 #[.pointer none] w fun e w' => e = .returned (.bool true) ∧ w = w' := by
  go_enter Try.func16, Try.ntmps16
  go_wp2_with (go_at_call 23; refine (len_nil _).mono ?_; rintro e w' ⟨rfl, rfl⟩)
  go_ret
  exact ⟨rfl, rfl⟩
theorem there_slot (bd bl : Nat) (D : Dsk) (p : Int) (w : World) (h : IsDisk w bd bl D) : Calls Try.prog 17 #[.pointer (some ⟨bd, 0, none⟩), .int .i64 p] w fun e w' => e = .returned (.bool (decide (¬ (p < 0 ∨ (D.secs.length : Int) - 12 < p)))) ∧ w = w' := by
  have hm := h.most
  have hp := h.pos
  by_cases h0 : p < 0
  · have d0 : decide (0 ≤ p) = false := decide_eq_false (by omega)
    have d1 : decide (¬ (p < 0 ∨ (D.secs.length : Int) - 12 < p)) = false := decide_eq_false (by omega)
    rw [d1]
    clear d1 h0
    go_enter Try.func17, Try.ntmps17
    go_wp2
    go_ret
    exact ⟨rfl, rfl⟩
  · have d0 : decide (0 ≤ p) = true := decide_eq_true (by omega)
    by_cases h1 : (D.secs.length : Int) - 12 < p
    · have d1 : decide (p ≤ (D.secs.length : Int) - 12) = false := decide_eq_false (by omega)
      have d2 : decide (¬ (p < 0 ∨ (D.secs.length : Int) - 12 < p)) = false := decide_eq_false (by omega)
      rw [d2]
      clear d2 h0 h1
      go_enter Try.func17, Try.ntmps17
      go_wp2_with (first
        | (go_at_call 23; refine (len_disk bd bl D _ h).mono ?_; rintro e w' ⟨rfl, rfl⟩)
        | (go_at_call 15; refine (room_any _).mono ?_; rintro e w' ⟨rfl, rfl⟩)
        | fail)
      go_ret
      exact ⟨rfl, rfl⟩
    · have d1 : decide (p ≤ (D.secs.length : Int) - 12) = true := decide_eq_true (by omega)
      have d2 : decide (¬ (p < 0 ∨ (D.secs.length : Int) - 12 < p)) = true := decide_eq_true (by omega)
      rw [d2]
      clear d2 h0 h1
      go_enter Try.func17, Try.ntmps17
      go_wp2_with (first
        | (go_at_call 23; refine (len_disk bd bl D _ h).mono ?_; rintro e w' ⟨rfl, rfl⟩)
        | (go_at_call 15; refine (room_any _).mono ?_; rintro e w' ⟨rfl, rfl⟩)
        | fail)
      go_ret
      exact ⟨rfl, rfl⟩

end Go.Proofs.Ythenakdfdpdknaa
