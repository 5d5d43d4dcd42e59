/- A book's other lists are nil; conditions: those typed. -/
import Derived.Test.YtppmpgkkegldnaaDoorBookL
namespace Go.Proofs.YtppmpgkkegldnaaDoor
open Go.RowKit
set_option linter.unusedVariables false
set_option linter.unusedSimpArgs false
set_option maxRecDepth 100000

theorem fillInt_nil (w : World) (bk N : Nat) (bs : Value) (h : w.heap[bk]? = some (.cells (bookC N bs) 41 (0, 0))) : Calls Tryd.prog 31 #[.pointer (some ⟨bk, 0, none⟩)] w fun e w' => e = .returned (.tuple #[]) ∧ w = w' := by
  have f1 : w.cell? ⟨bk, 2, none⟩ = some (.slice none 0 0) := by rw [cell_of_block h]; rfl
  clear h
  go_enter Tryd.func31, Tryd.ntmps31
  go_wp2
  go_loopw [2] (fun i wr => i = .int .i64 0 ∧ wr = w) (fun _ _ => 0)
  case atStart => exact ⟨rfl, rfl⟩
  case round =>
    obtain ⟨rfl, rfl⟩ := hrel
    go_wp2
    go_end0
    exact ⟨rfl, rfl⟩

theorem growInt_nil (w : World) (bk N : Nat) (bs : Value) (h : w.heap[bk]? = some (.cells (bookC N bs) 41 (0, 0))) : Calls Tryd.prog 40 #[.pointer (some ⟨bk, 0, none⟩)] w fun e w' => e = .returned (.tuple #[]) ∧ w = w' := by
  have f1 : w.cell? ⟨bk, 2, none⟩ = some (.slice none 0 0) := by rw [cell_of_block h]; rfl
  clear h
  go_enter Tryd.func40, Tryd.ntmps40
  go_wp2
  go_loopw [2] (fun i wr => i = .int .i64 0 ∧ wr = w) (fun _ _ => 0)
  case atStart => exact ⟨rfl, rfl⟩
  case round =>
    obtain ⟨rfl, rfl⟩ := hrel
    go_wp2
    go_end0
    exact ⟨rfl, rfl⟩

theorem lookInt_nil (w : World) (bk N : Nat) (bs : Value) (h : w.heap[bk]? = some (.cells (bookC N bs) 41 (0, 0))) : Calls Tryd.prog 49 #[.pointer (some ⟨bk, 0, none⟩)] w fun e w' => e = .returned (.bool true) ∧ w = w' := by
  have f1 : w.cell? ⟨bk, 2, none⟩ = some (.slice none 0 0) := by rw [cell_of_block h]; rfl
  clear h
  go_enter Tryd.func49, Tryd.ntmps49
  go_wp2
  go_loopw [3] (fun i wr => i = .int .i64 0 ∧ wr = w) (fun _ _ => 0)
  case atStart => exact ⟨rfl, rfl⟩
  case round =>
    obtain ⟨rfl, rfl⟩ := hrel
    go_wp2
    go_ret
    exact ⟨rfl, rfl⟩

theorem fillText_nil (w : World) (bk N : Nat) (bs : Value) (h : w.heap[bk]? = some (.cells (bookC N bs) 41 (0, 0))) : Calls Tryd.prog 32 #[.pointer (some ⟨bk, 0, none⟩)] w fun e w' => e = .returned (.tuple #[]) ∧ w = w' := by
  have f1 : w.cell? ⟨bk, 3, none⟩ = some (.slice none 0 0) := by rw [cell_of_block h]; rfl
  clear h
  go_enter Tryd.func32, Tryd.ntmps32
  go_wp2
  go_loopw [2] (fun i wr => i = .int .i64 0 ∧ wr = w) (fun _ _ => 0)
  case atStart => exact ⟨rfl, rfl⟩
  case round =>
    obtain ⟨rfl, rfl⟩ := hrel
    go_wp2
    go_end0
    exact ⟨rfl, rfl⟩

theorem growText_nil (w : World) (bk N : Nat) (bs : Value) (h : w.heap[bk]? = some (.cells (bookC N bs) 41 (0, 0))) : Calls Tryd.prog 41 #[.pointer (some ⟨bk, 0, none⟩)] w fun e w' => e = .returned (.tuple #[]) ∧ w = w' := by
  have f1 : w.cell? ⟨bk, 3, none⟩ = some (.slice none 0 0) := by rw [cell_of_block h]; rfl
  clear h
  go_enter Tryd.func41, Tryd.ntmps41
  go_wp2
  go_loopw [2] (fun i wr => i = .int .i64 0 ∧ wr = w) (fun _ _ => 0)
  case atStart => exact ⟨rfl, rfl⟩
  case round =>
    obtain ⟨rfl, rfl⟩ := hrel
    go_wp2
    go_end0
    exact ⟨rfl, rfl⟩

theorem lookText_nil (w : World) (bk N : Nat) (bs : Value) (h : w.heap[bk]? = some (.cells (bookC N bs) 41 (0, 0))) : Calls Tryd.prog 50 #[.pointer (some ⟨bk, 0, none⟩)] w fun e w' => e = .returned (.bool true) ∧ w = w' := by
  have f1 : w.cell? ⟨bk, 3, none⟩ = some (.slice none 0 0) := by rw [cell_of_block h]; rfl
  clear h
  go_enter Tryd.func50, Tryd.ntmps50
  go_wp2
  go_loopw [3] (fun i wr => i = .int .i64 0 ∧ wr = w) (fun _ _ => 0)
  case atStart => exact ⟨rfl, rfl⟩
  case round =>
    obtain ⟨rfl, rfl⟩ := hrel
    go_wp2
    go_ret
    exact ⟨rfl, rfl⟩

theorem fillIntList_nil (w : World) (bk N : Nat) (bs : Value) (h : w.heap[bk]? = some (.cells (bookC N bs) 41 (0, 0))) : Calls Tryd.prog 33 #[.pointer (some ⟨bk, 0, none⟩)] w fun e w' => e = .returned (.tuple #[]) ∧ w = w' := by
  have f1 : w.cell? ⟨bk, 4, none⟩ = some (.slice none 0 0) := by rw [cell_of_block h]; rfl
  clear h
  go_enter Tryd.func33, Tryd.ntmps33
  go_wp2
  go_loopw [2] (fun i wr => i = .int .i64 0 ∧ wr = w) (fun _ _ => 0)
  case atStart => exact ⟨rfl, rfl⟩
  case round =>
    obtain ⟨rfl, rfl⟩ := hrel
    go_wp2
    go_end0
    exact ⟨rfl, rfl⟩

theorem growIntList_nil (w : World) (bk N : Nat) (bs : Value) (h : w.heap[bk]? = some (.cells (bookC N bs) 41 (0, 0))) : Calls Tryd.prog 42 #[.pointer (some ⟨bk, 0, none⟩)] w fun e w' => e = .returned (.tuple #[]) ∧ w = w' := by
  have f1 : w.cell? ⟨bk, 4, none⟩ = some (.slice none 0 0) := by rw [cell_of_block h]; rfl
  clear h
  go_enter Tryd.func42, Tryd.ntmps42
  go_wp2
  go_loopw [2] (fun i wr => i = .int .i64 0 ∧ wr = w) (fun _ _ => 0)
  case atStart => exact ⟨rfl, rfl⟩
  case round =>
    obtain ⟨rfl, rfl⟩ := hrel
    go_wp2
    go_end0
    exact ⟨rfl, rfl⟩

theorem lookIntList_nil (w : World) (bk N : Nat) (bs : Value) (h : w.heap[bk]? = some (.cells (bookC N bs) 41 (0, 0))) : Calls Tryd.prog 51 #[.pointer (some ⟨bk, 0, none⟩)] w fun e w' => e = .returned (.bool true) ∧ w = w' := by
  have f1 : w.cell? ⟨bk, 4, none⟩ = some (.slice none 0 0) := by rw [cell_of_block h]; rfl
  clear h
  go_enter Tryd.func51, Tryd.ntmps51
  go_wp2
  go_loopw [3] (fun i wr => i = .int .i64 0 ∧ wr = w) (fun _ _ => 0)
  case atStart => exact ⟨rfl, rfl⟩
  case round =>
    obtain ⟨rfl, rfl⟩ := hrel
    go_wp2
    go_ret
    exact ⟨rfl, rfl⟩

theorem fillByteList_nil (w : World) (bk N : Nat) (bs : Value) (h : w.heap[bk]? = some (.cells (bookC N bs) 41 (0, 0))) : Calls Tryd.prog 34 #[.pointer (some ⟨bk, 0, none⟩)] w fun e w' => e = .returned (.tuple #[]) ∧ w = w' := by
  have f1 : w.cell? ⟨bk, 5, none⟩ = some (.slice none 0 0) := by rw [cell_of_block h]; rfl
  clear h
  go_enter Tryd.func34, Tryd.ntmps34
  go_wp2
  go_loopw [2] (fun i wr => i = .int .i64 0 ∧ wr = w) (fun _ _ => 0)
  case atStart => exact ⟨rfl, rfl⟩
  case round =>
    obtain ⟨rfl, rfl⟩ := hrel
    go_wp2
    go_end0
    exact ⟨rfl, rfl⟩

theorem growByteList_nil (w : World) (bk N : Nat) (bs : Value) (h : w.heap[bk]? = some (.cells (bookC N bs) 41 (0, 0))) : Calls Tryd.prog 43 #[.pointer (some ⟨bk, 0, none⟩)] w fun e w' => e = .returned (.tuple #[]) ∧ w = w' := by
  have f1 : w.cell? ⟨bk, 5, none⟩ = some (.slice none 0 0) := by rw [cell_of_block h]; rfl
  clear h
  go_enter Tryd.func43, Tryd.ntmps43
  go_wp2
  go_loopw [2] (fun i wr => i = .int .i64 0 ∧ wr = w) (fun _ _ => 0)
  case atStart => exact ⟨rfl, rfl⟩
  case round =>
    obtain ⟨rfl, rfl⟩ := hrel
    go_wp2
    go_end0
    exact ⟨rfl, rfl⟩

theorem lookByteList_nil (w : World) (bk N : Nat) (bs : Value) (h : w.heap[bk]? = some (.cells (bookC N bs) 41 (0, 0))) : Calls Tryd.prog 52 #[.pointer (some ⟨bk, 0, none⟩)] w fun e w' => e = .returned (.bool true) ∧ w = w' := by
  have f1 : w.cell? ⟨bk, 5, none⟩ = some (.slice none 0 0) := by rw [cell_of_block h]; rfl
  clear h
  go_enter Tryd.func52, Tryd.ntmps52
  go_wp2
  go_loopw [3] (fun i wr => i = .int .i64 0 ∧ wr = w) (fun _ _ => 0)
  case atStart => exact ⟨rfl, rfl⟩
  case round =>
    obtain ⟨rfl, rfl⟩ := hrel
    go_wp2
    go_ret
    exact ⟨rfl, rfl⟩

theorem fillWhy_nil (w : World) (bk N : Nat) (bs : Value) (h : w.heap[bk]? = some (.cells (bookC N bs) 41 (0, 0))) : Calls Tryd.prog 35 #[.pointer (some ⟨bk, 0, none⟩)] w fun e w' => e = .returned (.tuple #[]) ∧ w = w' := by
  have f1 : w.cell? ⟨bk, 6, none⟩ = some (.slice none 0 0) := by rw [cell_of_block h]; rfl
  clear h
  go_enter Tryd.func35, Tryd.ntmps35
  go_wp2
  go_loopw [2] (fun i wr => i = .int .i64 0 ∧ wr = w) (fun _ _ => 0)
  case atStart => exact ⟨rfl, rfl⟩
  case round =>
    obtain ⟨rfl, rfl⟩ := hrel
    go_wp2
    go_end0
    exact ⟨rfl, rfl⟩

theorem growWhy_nil (w : World) (bk N : Nat) (bs : Value) (h : w.heap[bk]? = some (.cells (bookC N bs) 41 (0, 0))) : Calls Tryd.prog 44 #[.pointer (some ⟨bk, 0, none⟩)] w fun e w' => e = .returned (.tuple #[]) ∧ w = w' := by
  have f1 : w.cell? ⟨bk, 6, none⟩ = some (.slice none 0 0) := by rw [cell_of_block h]; rfl
  clear h
  go_enter Tryd.func44, Tryd.ntmps44
  go_wp2
  go_loopw [2] (fun i wr => i = .int .i64 0 ∧ wr = w) (fun _ _ => 0)
  case atStart => exact ⟨rfl, rfl⟩
  case round =>
    obtain ⟨rfl, rfl⟩ := hrel
    go_wp2
    go_end0
    exact ⟨rfl, rfl⟩

theorem lookWhy_nil (w : World) (bk N : Nat) (bs : Value) (h : w.heap[bk]? = some (.cells (bookC N bs) 41 (0, 0))) : Calls Tryd.prog 53 #[.pointer (some ⟨bk, 0, none⟩)] w fun e w' => e = .returned (.bool true) ∧ w = w' := by
  have f1 : w.cell? ⟨bk, 6, none⟩ = some (.slice none 0 0) := by rw [cell_of_block h]; rfl
  clear h
  go_enter Tryd.func53, Tryd.ntmps53
  go_wp2
  go_loopw [3] (fun i wr => i = .int .i64 0 ∧ wr = w) (fun _ _ => 0)
  case atStart => exact ⟨rfl, rfl⟩
  case round =>
    obtain ⟨rfl, rfl⟩ := hrel
    go_wp2
    go_ret
    exact ⟨rfl, rfl⟩

theorem fillFrame_nil (w : World) (bk N : Nat) (bs : Value) (h : w.heap[bk]? = some (.cells (bookC N bs) 41 (0, 0))) : Calls Tryd.prog 36 #[.pointer (some ⟨bk, 0, none⟩)] w fun e w' => e = .returned (.tuple #[]) ∧ w = w' := by
  have f1 : w.cell? ⟨bk, 7, none⟩ = some (.slice none 0 0) := by rw [cell_of_block h]; rfl
  clear h
  go_enter Tryd.func36, Tryd.ntmps36
  go_wp2
  go_loopw [2] (fun i wr => i = .int .i64 0 ∧ wr = w) (fun _ _ => 0)
  case atStart => exact ⟨rfl, rfl⟩
  case round =>
    obtain ⟨rfl, rfl⟩ := hrel
    go_wp2
    go_end0
    exact ⟨rfl, rfl⟩

theorem growFrame_nil (w : World) (bk N : Nat) (bs : Value) (h : w.heap[bk]? = some (.cells (bookC N bs) 41 (0, 0))) : Calls Tryd.prog 45 #[.pointer (some ⟨bk, 0, none⟩)] w fun e w' => e = .returned (.tuple #[]) ∧ w = w' := by
  have f1 : w.cell? ⟨bk, 7, none⟩ = some (.slice none 0 0) := by rw [cell_of_block h]; rfl
  clear h
  go_enter Tryd.func45, Tryd.ntmps45
  go_wp2
  go_loopw [2] (fun i wr => i = .int .i64 0 ∧ wr = w) (fun _ _ => 0)
  case atStart => exact ⟨rfl, rfl⟩
  case round =>
    obtain ⟨rfl, rfl⟩ := hrel
    go_wp2
    go_end0
    exact ⟨rfl, rfl⟩

theorem lookFrame_nil (w : World) (bk N : Nat) (bs : Value) (h : w.heap[bk]? = some (.cells (bookC N bs) 41 (0, 0))) : Calls Tryd.prog 54 #[.pointer (some ⟨bk, 0, none⟩)] w fun e w' => e = .returned (.bool true) ∧ w = w' := by
  have f1 : w.cell? ⟨bk, 7, none⟩ = some (.slice none 0 0) := by rw [cell_of_block h]; rfl
  clear h
  go_enter Tryd.func54, Tryd.ntmps54
  go_wp2
  go_loopw [3] (fun i wr => i = .int .i64 0 ∧ wr = w) (fun _ _ => 0)
  case atStart => exact ⟨rfl, rfl⟩
  case round =>
    obtain ⟨rfl, rfl⟩ := hrel
    go_wp2
    go_ret
    exact ⟨rfl, rfl⟩

theorem fillReply_nil (w : World) (bk N : Nat) (bs : Value) (h : w.heap[bk]? = some (.cells (bookC N bs) 41 (0, 0))) : Calls Tryd.prog 37 #[.pointer (some ⟨bk, 0, none⟩)] w fun e w' => e = .returned (.tuple #[]) ∧ w = w' := by
  have f1 : w.cell? ⟨bk, 8, none⟩ = some (.slice none 0 0) := by rw [cell_of_block h]; rfl
  clear h
  go_enter Tryd.func37, Tryd.ntmps37
  go_wp2
  go_loopw [2] (fun i wr => i = .int .i64 0 ∧ wr = w) (fun _ _ => 0)
  case atStart => exact ⟨rfl, rfl⟩
  case round =>
    obtain ⟨rfl, rfl⟩ := hrel
    go_wp2
    go_end0
    exact ⟨rfl, rfl⟩

theorem growReply_nil (w : World) (bk N : Nat) (bs : Value) (h : w.heap[bk]? = some (.cells (bookC N bs) 41 (0, 0))) : Calls Tryd.prog 46 #[.pointer (some ⟨bk, 0, none⟩)] w fun e w' => e = .returned (.tuple #[]) ∧ w = w' := by
  have f1 : w.cell? ⟨bk, 8, none⟩ = some (.slice none 0 0) := by rw [cell_of_block h]; rfl
  clear h
  go_enter Tryd.func46, Tryd.ntmps46
  go_wp2
  go_loopw [2] (fun i wr => i = .int .i64 0 ∧ wr = w) (fun _ _ => 0)
  case atStart => exact ⟨rfl, rfl⟩
  case round =>
    obtain ⟨rfl, rfl⟩ := hrel
    go_wp2
    go_end0
    exact ⟨rfl, rfl⟩

theorem lookReply_nil (w : World) (bk N : Nat) (bs : Value) (h : w.heap[bk]? = some (.cells (bookC N bs) 41 (0, 0))) : Calls Tryd.prog 55 #[.pointer (some ⟨bk, 0, none⟩)] w fun e w' => e = .returned (.bool true) ∧ w = w' := by
  have f1 : w.cell? ⟨bk, 8, none⟩ = some (.slice none 0 0) := by rw [cell_of_block h]; rfl
  clear h
  go_enter Tryd.func55, Tryd.ntmps55
  go_wp2
  go_loopw [3] (fun i wr => i = .int .i64 0 ∧ wr = w) (fun _ _ => 0)
  case atStart => exact ⟨rfl, rfl⟩
  case round =>
    obtain ⟨rfl, rfl⟩ := hrel
    go_wp2
    go_ret
    exact ⟨rfl, rfl⟩

theorem fillRecord_nil (w : World) (bk N : Nat) (bs : Value) (h : w.heap[bk]? = some (.cells (bookC N bs) 41 (0, 0))) : Calls Tryd.prog 38 #[.pointer (some ⟨bk, 0, none⟩)] w fun e w' => e = .returned (.tuple #[]) ∧ w = w' := by
  have f1 : w.cell? ⟨bk, 9, none⟩ = some (.slice none 0 0) := by rw [cell_of_block h]; rfl
  clear h
  go_enter Tryd.func38, Tryd.ntmps38
  go_wp2
  go_loopw [2] (fun i wr => i = .int .i64 0 ∧ wr = w) (fun _ _ => 0)
  case atStart => exact ⟨rfl, rfl⟩
  case round =>
    obtain ⟨rfl, rfl⟩ := hrel
    go_wp2
    go_end0
    exact ⟨rfl, rfl⟩

theorem growRecord_nil (w : World) (bk N : Nat) (bs : Value) (h : w.heap[bk]? = some (.cells (bookC N bs) 41 (0, 0))) : Calls Tryd.prog 47 #[.pointer (some ⟨bk, 0, none⟩)] w fun e w' => e = .returned (.tuple #[]) ∧ w = w' := by
  have f1 : w.cell? ⟨bk, 9, none⟩ = some (.slice none 0 0) := by rw [cell_of_block h]; rfl
  clear h
  go_enter Tryd.func47, Tryd.ntmps47
  go_wp2
  go_loopw [2] (fun i wr => i = .int .i64 0 ∧ wr = w) (fun _ _ => 0)
  case atStart => exact ⟨rfl, rfl⟩
  case round =>
    obtain ⟨rfl, rfl⟩ := hrel
    go_wp2
    go_end0
    exact ⟨rfl, rfl⟩

theorem lookRecord_nil (w : World) (bk N : Nat) (bs : Value) (h : w.heap[bk]? = some (.cells (bookC N bs) 41 (0, 0))) : Calls Tryd.prog 56 #[.pointer (some ⟨bk, 0, none⟩)] w fun e w' => e = .returned (.bool true) ∧ w = w' := by
  have f1 : w.cell? ⟨bk, 9, none⟩ = some (.slice none 0 0) := by rw [cell_of_block h]; rfl
  clear h
  go_enter Tryd.func56, Tryd.ntmps56
  go_wp2
  go_loopw [3] (fun i wr => i = .int .i64 0 ∧ wr = w) (fun _ _ => 0)
  case atStart => exact ⟨rfl, rfl⟩
  case round =>
    obtain ⟨rfl, rfl⟩ := hrel
    go_wp2
    go_ret
    exact ⟨rfl, rfl⟩

end Go.Proofs.YtppmpgkkegldnaaDoor
