/- disks: what its functions answer where there is no disk; conditions: those typed. -/
import Derived.Test.YtppmpgkkegldnaaDoorDisksC
namespace Go.Proofs.YtppmpgkkegldnaaDoor
open Go.RowKit
set_option linter.unusedVariables false

/-- a disk that no call made. -/
def IsZero (w : World) (bz : Nat) : Prop := w.heap[bz]? = some (.cells #[.slice none 0 0, .int .i64 0, .bool false, .int .i64 0] 59 (0, 0))
theorem IsZero.field {w : World} {bz : Nat} (h : IsZero w bz) : w.cell? ⟨bz, 0, none⟩ = some (.slice none 0 0) ∧ w.cell? ⟨bz, 1, none⟩ = some (.int .i64 0) ∧ w.cell? ⟨bz, 2, none⟩ = some (.bool false) ∧ w.cell? ⟨bz, 3, none⟩ = some (.int .i64 0) := by
  refine ⟨?_, ?_, ?_, ?_⟩ <;> rw [cell_of_block h] <;> rfl
theorem IsZero.below {w w' : World} {bz : Nat} (h : IsZero w bz) (hb : Below w.heap.size w w') : IsZero w' bz := below_heap hb h (lt_of_heap h)

set_option maxHeartbeats 1000000 in
theorem read_nil (n : Int) (w : World) :
    Calls Tryd.prog 8 #[.pointer none, .int .i64 n] w fun e w' => e = .returned (.tuple #[.slice none 0 0, .int .i64 2]) ∧ Below w.heap.size w w' := by
  go_enter Tryd.func8, Tryd.ntmps8
  go_wp2
  go_ret2
  exact ⟨rfl, Below.refl _ _⟩

set_option maxHeartbeats 1000000 in
theorem read_zero (n : Int) (bz : Nat) (w : World) (h : IsZero w bz) :
    Calls Tryd.prog 8 #[.pointer (some ⟨bz, 0, none⟩), .int .i64 n] w fun e w' => e = .returned (.tuple #[.slice none 0 0, .int .i64 2]) ∧ Below w.heap.size w w' := by
  obtain ⟨f0, f1, f2, f3⟩ := h.field
  have hlt := lt_of_heap h
  clear h
  go_enter Tryd.func8, Tryd.ntmps8
  go_wp2
  go_ret2
  exact ⟨rfl, Below.refl _ _⟩

set_option maxHeartbeats 1000000 in
theorem copy_nil (w : World) :
    Calls Tryd.prog 14 #[.pointer none] w fun e w' => e = .returned (.tuple #[.pointer none, .int .i64 2]) ∧ Below w.heap.size w w' := by
  go_enter Tryd.func14, Tryd.ntmps14
  go_wp2
  go_ret2
  exact ⟨rfl, Below.refl _ _⟩

set_option maxHeartbeats 1000000 in
theorem copy_zero (bz : Nat) (w : World) (h : IsZero w bz) :
    Calls Tryd.prog 14 #[.pointer (some ⟨bz, 0, none⟩)] w fun e w' => e = .returned (.tuple #[.pointer none, .int .i64 2]) ∧ Below w.heap.size w w' := by
  obtain ⟨f0, f1, f2, f3⟩ := h.field
  have hlt := lt_of_heap h
  clear h
  go_enter Tryd.func14, Tryd.ntmps14
  go_wp2
  go_ret2
  exact ⟨rfl, Below.refl _ _⟩

set_option maxHeartbeats 1000000 in
theorem write_nil (n : Int) (a : Option Addr) (m c : Nat) (w : World) :
    Calls Tryd.prog 17 #[.pointer none, .int .i64 n, .slice a m c] w fun e w' => e = .returned (.int .i64 2) ∧ Below w.heap.size w w' := by
  go_enter Tryd.func17, Tryd.ntmps17
  go_wp2
  go_ret
  exact ⟨rfl, ((Below.refl _ _).alloc (Nat.le_refl _) _).alloc (by simp) _⟩

set_option maxHeartbeats 1000000 in
theorem write_zero (n : Int) (a : Option Addr) (m c : Nat) (bz : Nat) (w : World) (h : IsZero w bz) :
    Calls Tryd.prog 17 #[.pointer (some ⟨bz, 0, none⟩), .int .i64 n, .slice a m c] w fun e w' => e = .returned (.int .i64 2) ∧ Below w.heap.size w w' := by
  obtain ⟨f0, f1, f2, f3⟩ := h.field
  have hlt := lt_of_heap h
  clear h
  go_enter Tryd.func17, Tryd.ntmps17
  go_wp2
  go_ret
  exact ⟨rfl, ((Below.refl _ _).alloc (Nat.le_refl _) _).alloc (by simp) _⟩

set_option maxHeartbeats 1000000 in
theorem fuse_nil (n : Int) (w : World) :
    Calls Tryd.prog 12 #[.pointer none, .int .i64 n] w fun e w' => e = .returned (.int .i64 2) ∧ Below w.heap.size w w' := by
  go_enter Tryd.func12, Tryd.ntmps12
  go_wp2
  go_ret
  exact ⟨rfl, Below.refl _ _⟩

set_option maxHeartbeats 1000000 in
theorem fuse_zero (n : Int) (bz : Nat) (w : World) (h : IsZero w bz) :
    Calls Tryd.prog 12 #[.pointer (some ⟨bz, 0, none⟩), .int .i64 n] w fun e w' => e = .returned (.int .i64 2) ∧ Below w.heap.size w w' := by
  obtain ⟨f0, f1, f2, f3⟩ := h.field
  have hlt := lt_of_heap h
  clear h
  go_enter Tryd.func12, Tryd.ntmps12
  go_wp2
  go_ret
  exact ⟨rfl, Below.refl _ _⟩



set_option maxHeartbeats 1000000 in
theorem writes_nil (w : World) :
    Calls Tryd.prog 16 #[.pointer none] w fun e w' => e = .returned (.int .i64 0) ∧ Below w.heap.size w w' := by
  go_enter Tryd.func16, Tryd.ntmps16
  go_wp2
  go_ret
  exact ⟨rfl, Below.refl _ _⟩

set_option maxHeartbeats 1000000 in
theorem writes_zero (bz : Nat) (w : World) (h : IsZero w bz) :
    Calls Tryd.prog 16 #[.pointer (some ⟨bz, 0, none⟩)] w fun e w' => e = .returned (.int .i64 0) ∧ Below w.heap.size w w' := by
  obtain ⟨f0, f1, f2, f3⟩ := h.field
  have hlt := lt_of_heap h
  clear h
  go_enter Tryd.func16, Tryd.ntmps16
  go_wp2
  go_ret
  exact ⟨rfl, Below.refl _ _⟩

set_option maxHeartbeats 1000000 in
theorem len_zero (bz : Nat) (w : World) (h : IsZero w bz) :
    Calls Tryd.prog 22 #[.pointer (some ⟨bz, 0, none⟩)] w fun e w' => e = .returned (.int .i64 0) ∧ Below w.heap.size w w' := by
  obtain ⟨f0, f1, f2, f3⟩ := h.field
  have hlt := lt_of_heap h
  clear h
  go_enter Tryd.func22, Tryd.ntmps22
  go_wp2
  go_ret
  exact ⟨rfl, Below.refl _ _⟩

theorem len_nilB (w : World) : Calls Tryd.prog 22 #[.pointer none] w fun e w' => e = .returned (.int .i64 0) ∧ Below w.heap.size w w' := (len_nil w).mono fun _ _ ⟨h1, h2⟩ => ⟨h1, h2 ▸ Below.refl _ _⟩

end Go.Proofs.YtppmpgkkegldnaaDoor
