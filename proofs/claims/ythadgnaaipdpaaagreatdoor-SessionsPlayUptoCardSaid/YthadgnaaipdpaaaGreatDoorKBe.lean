/- A book's lists of other kinds are nil; conditions: those typed. (Written by gen_nil.py.) -/
import Derived.Test.YthadgnaaipdpaaaGreatDoorKBt
namespace Go.Proofs.YthadgnaaipdpaaaGreatDoor
open Go.RowKit
set_option linter.unusedVariables false
set_option linter.unusedSimpArgs false
set_option maxRecDepth 100000

theorem fillText_nil (w : World) (bk N : Nat) (bs : Kd → Value) (h : w.heap[bk]? = some (.cells (bookC N bs) 54 (0, 0))) : Calls Tryz.prog 44 #[.pointer (some ⟨bk, 0, none⟩)] w fun e w' => e = .returned (.tuple #[]) ∧ w = w' := by
  have f1 : w.cell? ⟨bk, 3, none⟩ = some (.slice none 0 0) := by rw [cell_of_block h]; rfl
  clear h
  go_enter Tryz.func44, Tryz.ntmps44
  go_wp2
  go_loopw [2] (fun i wr => i = .int .i64 0 ∧ wr = w) (fun _ _ => 0)
  case atStart => exact ⟨rfl, rfl⟩
  case round =>
    obtain ⟨rfl, rfl⟩ := hrel
    go_wp2
    go_end0
    exact ⟨rfl, rfl⟩

theorem growText_nil (w : World) (bk N : Nat) (bs : Kd → Value) (h : w.heap[bk]? = some (.cells (bookC N bs) 54 (0, 0))) : Calls Tryz.prog 53 #[.pointer (some ⟨bk, 0, none⟩)] w fun e w' => e = .returned (.tuple #[]) ∧ w = w' := by
  have f1 : w.cell? ⟨bk, 3, none⟩ = some (.slice none 0 0) := by rw [cell_of_block h]; rfl
  clear h
  go_enter Tryz.func53, Tryz.ntmps53
  go_wp2
  go_loopw [2] (fun i wr => i = .int .i64 0 ∧ wr = w) (fun _ _ => 0)
  case atStart => exact ⟨rfl, rfl⟩
  case round =>
    obtain ⟨rfl, rfl⟩ := hrel
    go_wp2
    go_end0
    exact ⟨rfl, rfl⟩

theorem lookText_nil (w : World) (bk N : Nat) (bs : Kd → Value) (h : w.heap[bk]? = some (.cells (bookC N bs) 54 (0, 0))) : Calls Tryz.prog 62 #[.pointer (some ⟨bk, 0, none⟩)] w fun e w' => e = .returned (.bool true) ∧ w = w' := by
  have f1 : w.cell? ⟨bk, 3, none⟩ = some (.slice none 0 0) := by rw [cell_of_block h]; rfl
  clear h
  go_enter Tryz.func62, Tryz.ntmps62
  go_wp2
  go_loopw [3] (fun i wr => i = .int .i64 0 ∧ wr = w) (fun _ _ => 0)
  case atStart => exact ⟨rfl, rfl⟩
  case round =>
    obtain ⟨rfl, rfl⟩ := hrel
    go_wp2
    go_ret
    exact ⟨rfl, rfl⟩

theorem fillWhy_nil (w : World) (bk N : Nat) (bs : Kd → Value) (h : w.heap[bk]? = some (.cells (bookC N bs) 54 (0, 0))) : Calls Tryz.prog 47 #[.pointer (some ⟨bk, 0, none⟩)] w fun e w' => e = .returned (.tuple #[]) ∧ w = w' := by
  have f1 : w.cell? ⟨bk, 6, none⟩ = some (.slice none 0 0) := by rw [cell_of_block h]; rfl
  clear h
  go_enter Tryz.func47, Tryz.ntmps47
  go_wp2
  go_loopw [2] (fun i wr => i = .int .i64 0 ∧ wr = w) (fun _ _ => 0)
  case atStart => exact ⟨rfl, rfl⟩
  case round =>
    obtain ⟨rfl, rfl⟩ := hrel
    go_wp2
    go_end0
    exact ⟨rfl, rfl⟩

theorem growWhy_nil (w : World) (bk N : Nat) (bs : Kd → Value) (h : w.heap[bk]? = some (.cells (bookC N bs) 54 (0, 0))) : Calls Tryz.prog 56 #[.pointer (some ⟨bk, 0, none⟩)] w fun e w' => e = .returned (.tuple #[]) ∧ w = w' := by
  have f1 : w.cell? ⟨bk, 6, none⟩ = some (.slice none 0 0) := by rw [cell_of_block h]; rfl
  clear h
  go_enter Tryz.func56, Tryz.ntmps56
  go_wp2
  go_loopw [2] (fun i wr => i = .int .i64 0 ∧ wr = w) (fun _ _ => 0)
  case atStart => exact ⟨rfl, rfl⟩
  case round =>
    obtain ⟨rfl, rfl⟩ := hrel
    go_wp2
    go_end0
    exact ⟨rfl, rfl⟩

theorem lookWhy_nil (w : World) (bk N : Nat) (bs : Kd → Value) (h : w.heap[bk]? = some (.cells (bookC N bs) 54 (0, 0))) : Calls Tryz.prog 65 #[.pointer (some ⟨bk, 0, none⟩)] w fun e w' => e = .returned (.bool true) ∧ w = w' := by
  have f1 : w.cell? ⟨bk, 6, none⟩ = some (.slice none 0 0) := by rw [cell_of_block h]; rfl
  clear h
  go_enter Tryz.func65, Tryz.ntmps65
  go_wp2
  go_loopw [3] (fun i wr => i = .int .i64 0 ∧ wr = w) (fun _ _ => 0)
  case atStart => exact ⟨rfl, rfl⟩
  case round =>
    obtain ⟨rfl, rfl⟩ := hrel
    go_wp2
    go_ret
    exact ⟨rfl, rfl⟩

theorem fillFrame_nil (w : World) (bk N : Nat) (bs : Kd → Value) (h : w.heap[bk]? = some (.cells (bookC N bs) 54 (0, 0))) : Calls Tryz.prog 48 #[.pointer (some ⟨bk, 0, none⟩)] w fun e w' => e = .returned (.tuple #[]) ∧ w = w' := by
  have f1 : w.cell? ⟨bk, 7, none⟩ = some (.slice none 0 0) := by rw [cell_of_block h]; rfl
  clear h
  go_enter Tryz.func48, Tryz.ntmps48
  go_wp2
  go_loopw [2] (fun i wr => i = .int .i64 0 ∧ wr = w) (fun _ _ => 0)
  case atStart => exact ⟨rfl, rfl⟩
  case round =>
    obtain ⟨rfl, rfl⟩ := hrel
    go_wp2
    go_end0
    exact ⟨rfl, rfl⟩

theorem growFrame_nil (w : World) (bk N : Nat) (bs : Kd → Value) (h : w.heap[bk]? = some (.cells (bookC N bs) 54 (0, 0))) : Calls Tryz.prog 57 #[.pointer (some ⟨bk, 0, none⟩)] w fun e w' => e = .returned (.tuple #[]) ∧ w = w' := by
  have f1 : w.cell? ⟨bk, 7, none⟩ = some (.slice none 0 0) := by rw [cell_of_block h]; rfl
  clear h
  go_enter Tryz.func57, Tryz.ntmps57
  go_wp2
  go_loopw [2] (fun i wr => i = .int .i64 0 ∧ wr = w) (fun _ _ => 0)
  case atStart => exact ⟨rfl, rfl⟩
  case round =>
    obtain ⟨rfl, rfl⟩ := hrel
    go_wp2
    go_end0
    exact ⟨rfl, rfl⟩

theorem lookFrame_nil (w : World) (bk N : Nat) (bs : Kd → Value) (h : w.heap[bk]? = some (.cells (bookC N bs) 54 (0, 0))) : Calls Tryz.prog 66 #[.pointer (some ⟨bk, 0, none⟩)] w fun e w' => e = .returned (.bool true) ∧ w = w' := by
  have f1 : w.cell? ⟨bk, 7, none⟩ = some (.slice none 0 0) := by rw [cell_of_block h]; rfl
  clear h
  go_enter Tryz.func66, Tryz.ntmps66
  go_wp2
  go_loopw [3] (fun i wr => i = .int .i64 0 ∧ wr = w) (fun _ _ => 0)
  case atStart => exact ⟨rfl, rfl⟩
  case round =>
    obtain ⟨rfl, rfl⟩ := hrel
    go_wp2
    go_ret
    exact ⟨rfl, rfl⟩

theorem fillReply_nil (w : World) (bk N : Nat) (bs : Kd → Value) (h : w.heap[bk]? = some (.cells (bookC N bs) 54 (0, 0))) : Calls Tryz.prog 49 #[.pointer (some ⟨bk, 0, none⟩)] w fun e w' => e = .returned (.tuple #[]) ∧ w = w' := by
  have f1 : w.cell? ⟨bk, 8, none⟩ = some (.slice none 0 0) := by rw [cell_of_block h]; rfl
  clear h
  go_enter Tryz.func49, Tryz.ntmps49
  go_wp2
  go_loopw [2] (fun i wr => i = .int .i64 0 ∧ wr = w) (fun _ _ => 0)
  case atStart => exact ⟨rfl, rfl⟩
  case round =>
    obtain ⟨rfl, rfl⟩ := hrel
    go_wp2
    go_end0
    exact ⟨rfl, rfl⟩

theorem growReply_nil (w : World) (bk N : Nat) (bs : Kd → Value) (h : w.heap[bk]? = some (.cells (bookC N bs) 54 (0, 0))) : Calls Tryz.prog 58 #[.pointer (some ⟨bk, 0, none⟩)] w fun e w' => e = .returned (.tuple #[]) ∧ w = w' := by
  have f1 : w.cell? ⟨bk, 8, none⟩ = some (.slice none 0 0) := by rw [cell_of_block h]; rfl
  clear h
  go_enter Tryz.func58, Tryz.ntmps58
  go_wp2
  go_loopw [2] (fun i wr => i = .int .i64 0 ∧ wr = w) (fun _ _ => 0)
  case atStart => exact ⟨rfl, rfl⟩
  case round =>
    obtain ⟨rfl, rfl⟩ := hrel
    go_wp2
    go_end0
    exact ⟨rfl, rfl⟩

theorem lookReply_nil (w : World) (bk N : Nat) (bs : Kd → Value) (h : w.heap[bk]? = some (.cells (bookC N bs) 54 (0, 0))) : Calls Tryz.prog 67 #[.pointer (some ⟨bk, 0, none⟩)] w fun e w' => e = .returned (.bool true) ∧ w = w' := by
  have f1 : w.cell? ⟨bk, 8, none⟩ = some (.slice none 0 0) := by rw [cell_of_block h]; rfl
  clear h
  go_enter Tryz.func67, Tryz.ntmps67
  go_wp2
  go_loopw [3] (fun i wr => i = .int .i64 0 ∧ wr = w) (fun _ _ => 0)
  case atStart => exact ⟨rfl, rfl⟩
  case round =>
    obtain ⟨rfl, rfl⟩ := hrel
    go_wp2
    go_ret
    exact ⟨rfl, rfl⟩

theorem fillRecord_nil (w : World) (bk N : Nat) (bs : Kd → Value) (h : w.heap[bk]? = some (.cells (bookC N bs) 54 (0, 0))) : Calls Tryz.prog 50 #[.pointer (some ⟨bk, 0, none⟩)] w fun e w' => e = .returned (.tuple #[]) ∧ w = w' := by
  have f1 : w.cell? ⟨bk, 9, none⟩ = some (.slice none 0 0) := by rw [cell_of_block h]; rfl
  clear h
  go_enter Tryz.func50, Tryz.ntmps50
  go_wp2
  go_loopw [2] (fun i wr => i = .int .i64 0 ∧ wr = w) (fun _ _ => 0)
  case atStart => exact ⟨rfl, rfl⟩
  case round =>
    obtain ⟨rfl, rfl⟩ := hrel
    go_wp2
    go_end0
    exact ⟨rfl, rfl⟩

theorem growRecord_nil (w : World) (bk N : Nat) (bs : Kd → Value) (h : w.heap[bk]? = some (.cells (bookC N bs) 54 (0, 0))) : Calls Tryz.prog 59 #[.pointer (some ⟨bk, 0, none⟩)] w fun e w' => e = .returned (.tuple #[]) ∧ w = w' := by
  have f1 : w.cell? ⟨bk, 9, none⟩ = some (.slice none 0 0) := by rw [cell_of_block h]; rfl
  clear h
  go_enter Tryz.func59, Tryz.ntmps59
  go_wp2
  go_loopw [2] (fun i wr => i = .int .i64 0 ∧ wr = w) (fun _ _ => 0)
  case atStart => exact ⟨rfl, rfl⟩
  case round =>
    obtain ⟨rfl, rfl⟩ := hrel
    go_wp2
    go_end0
    exact ⟨rfl, rfl⟩

theorem lookRecord_nil (w : World) (bk N : Nat) (bs : Kd → Value) (h : w.heap[bk]? = some (.cells (bookC N bs) 54 (0, 0))) : Calls Tryz.prog 68 #[.pointer (some ⟨bk, 0, none⟩)] w fun e w' => e = .returned (.bool true) ∧ w = w' := by
  have f1 : w.cell? ⟨bk, 9, none⟩ = some (.slice none 0 0) := by rw [cell_of_block h]; rfl
  clear h
  go_enter Tryz.func68, Tryz.ntmps68
  go_wp2
  go_loopw [3] (fun i wr => i = .int .i64 0 ∧ wr = w) (fun _ _ => 0)
  case atStart => exact ⟨rfl, rfl⟩
  case round =>
    obtain ⟨rfl, rfl⟩ := hrel
    go_wp2
    go_ret
    exact ⟨rfl, rfl⟩

end Go.Proofs.YthadgnaaipdpaaaGreatDoor
