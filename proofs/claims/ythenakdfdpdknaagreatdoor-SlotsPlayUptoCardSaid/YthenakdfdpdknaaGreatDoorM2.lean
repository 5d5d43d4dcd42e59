/- A book's other lists are nil; conditions: those typed. -/
import Derived.Test.YthenakdfdpdknaaGreatDoorM1
import Derived.Deep.RegionHeld3
import Derived.Deep.RegionLaw
namespace Go.Proofs.YthenakdfdpdknaaGreatDoor
open Go.RowKit
set_option linter.unusedVariables false
set_option linter.unusedSimpArgs false
set_option maxRecDepth 100000

theorem fillInt_nil (w : World) (bk N : Nat) (bs : Value) (h : w.heap[bk]? = some (.cells (bookC N bs) 46 (0, 0))) : Calls Tryz.prog 39 #[.pointer (some ⟨bk, 0, none⟩)] w fun e w' => e = .returned (.tuple #[]) ∧ w = w' := by
  have f1 : w.cell? ⟨bk, 2, none⟩ = some (.slice none 0 0) := by rw [cell_of_block h]; rfl
  clear h
  go_enter Tryz.func39, Tryz.ntmps39
  go_wp2
  go_loopw [2] (fun i wr => i = .int .i64 0 ∧ wr = w) (fun _ _ => 0)
  case atStart => exact ⟨rfl, rfl⟩
  case round =>
    obtain ⟨rfl, rfl⟩ := hrel
    go_wp2
    go_end0
    exact ⟨rfl, rfl⟩

theorem growInt_nil (w : World) (bk N : Nat) (bs : Value) (h : w.heap[bk]? = some (.cells (bookC N bs) 46 (0, 0))) : Calls Tryz.prog 48 #[.pointer (some ⟨bk, 0, none⟩)] w fun e w' => e = .returned (.tuple #[]) ∧ w = w' := by
  have f1 : w.cell? ⟨bk, 2, none⟩ = some (.slice none 0 0) := by rw [cell_of_block h]; rfl
  clear h
  go_enter Tryz.func48, Tryz.ntmps48
  go_wp2
  go_loopw [2] (fun i wr => i = .int .i64 0 ∧ wr = w) (fun _ _ => 0)
  case atStart => exact ⟨rfl, rfl⟩
  case round =>
    obtain ⟨rfl, rfl⟩ := hrel
    go_wp2
    go_end0
    exact ⟨rfl, rfl⟩

theorem lookInt_nil (w : World) (bk N : Nat) (bs : Value) (h : w.heap[bk]? = some (.cells (bookC N bs) 46 (0, 0))) : Calls Tryz.prog 57 #[.pointer (some ⟨bk, 0, none⟩)] w fun e w' => e = .returned (.bool true) ∧ w = w' := by
  have f1 : w.cell? ⟨bk, 2, none⟩ = some (.slice none 0 0) := by rw [cell_of_block h]; rfl
  clear h
  go_enter Tryz.func57, Tryz.ntmps57
  go_wp2
  go_loopw [3] (fun i wr => i = .int .i64 0 ∧ wr = w) (fun _ _ => 0)
  case atStart => exact ⟨rfl, rfl⟩
  case round =>
    obtain ⟨rfl, rfl⟩ := hrel
    go_wp2
    go_ret
    exact ⟨rfl, rfl⟩

theorem fillText_nil (w : World) (bk N : Nat) (bs : Value) (h : w.heap[bk]? = some (.cells (bookC N bs) 46 (0, 0))) : Calls Tryz.prog 40 #[.pointer (some ⟨bk, 0, none⟩)] w fun e w' => e = .returned (.tuple #[]) ∧ w = w' := by
  have f1 : w.cell? ⟨bk, 3, none⟩ = some (.slice none 0 0) := by rw [cell_of_block h]; rfl
  clear h
  go_enter Tryz.func40, Tryz.ntmps40
  go_wp2
  go_loopw [2] (fun i wr => i = .int .i64 0 ∧ wr = w) (fun _ _ => 0)
  case atStart => exact ⟨rfl, rfl⟩
  case round =>
    obtain ⟨rfl, rfl⟩ := hrel
    go_wp2
    go_end0
    exact ⟨rfl, rfl⟩

theorem growText_nil (w : World) (bk N : Nat) (bs : Value) (h : w.heap[bk]? = some (.cells (bookC N bs) 46 (0, 0))) : Calls Tryz.prog 49 #[.pointer (some ⟨bk, 0, none⟩)] w fun e w' => e = .returned (.tuple #[]) ∧ w = w' := by
  have f1 : w.cell? ⟨bk, 3, none⟩ = some (.slice none 0 0) := by rw [cell_of_block h]; rfl
  clear h
  go_enter Tryz.func49, Tryz.ntmps49
  go_wp2
  go_loopw [2] (fun i wr => i = .int .i64 0 ∧ wr = w) (fun _ _ => 0)
  case atStart => exact ⟨rfl, rfl⟩
  case round =>
    obtain ⟨rfl, rfl⟩ := hrel
    go_wp2
    go_end0
    exact ⟨rfl, rfl⟩

theorem lookText_nil (w : World) (bk N : Nat) (bs : Value) (h : w.heap[bk]? = some (.cells (bookC N bs) 46 (0, 0))) : Calls Tryz.prog 58 #[.pointer (some ⟨bk, 0, none⟩)] w fun e w' => e = .returned (.bool true) ∧ w = w' := by
  have f1 : w.cell? ⟨bk, 3, none⟩ = some (.slice none 0 0) := by rw [cell_of_block h]; rfl
  clear h
  go_enter Tryz.func58, Tryz.ntmps58
  go_wp2
  go_loopw [3] (fun i wr => i = .int .i64 0 ∧ wr = w) (fun _ _ => 0)
  case atStart => exact ⟨rfl, rfl⟩
  case round =>
    obtain ⟨rfl, rfl⟩ := hrel
    go_wp2
    go_ret
    exact ⟨rfl, rfl⟩

theorem fillIntList_nil (w : World) (bk N : Nat) (bs : Value) (h : w.heap[bk]? = some (.cells (bookC N bs) 46 (0, 0))) : Calls Tryz.prog 41 #[.pointer (some ⟨bk, 0, none⟩)] w fun e w' => e = .returned (.tuple #[]) ∧ w = w' := by
  have f1 : w.cell? ⟨bk, 4, none⟩ = some (.slice none 0 0) := by rw [cell_of_block h]; rfl
  clear h
  go_enter Tryz.func41, Tryz.ntmps41
  go_wp2
  go_loopw [2] (fun i wr => i = .int .i64 0 ∧ wr = w) (fun _ _ => 0)
  case atStart => exact ⟨rfl, rfl⟩
  case round =>
    obtain ⟨rfl, rfl⟩ := hrel
    go_wp2
    go_end0
    exact ⟨rfl, rfl⟩

theorem growIntList_nil (w : World) (bk N : Nat) (bs : Value) (h : w.heap[bk]? = some (.cells (bookC N bs) 46 (0, 0))) : Calls Tryz.prog 50 #[.pointer (some ⟨bk, 0, none⟩)] w fun e w' => e = .returned (.tuple #[]) ∧ w = w' := by
  have f1 : w.cell? ⟨bk, 4, none⟩ = some (.slice none 0 0) := by rw [cell_of_block h]; rfl
  clear h
  go_enter Tryz.func50, Tryz.ntmps50
  go_wp2
  go_loopw [2] (fun i wr => i = .int .i64 0 ∧ wr = w) (fun _ _ => 0)
  case atStart => exact ⟨rfl, rfl⟩
  case round =>
    obtain ⟨rfl, rfl⟩ := hrel
    go_wp2
    go_end0
    exact ⟨rfl, rfl⟩

theorem lookIntList_nil (w : World) (bk N : Nat) (bs : Value) (h : w.heap[bk]? = some (.cells (bookC N bs) 46 (0, 0))) : Calls Tryz.prog 59 #[.pointer (some ⟨bk, 0, none⟩)] w fun e w' => e = .returned (.bool true) ∧ w = w' := by
  have f1 : w.cell? ⟨bk, 4, none⟩ = some (.slice none 0 0) := by rw [cell_of_block h]; rfl
  clear h
  go_enter Tryz.func59, Tryz.ntmps59
  go_wp2
  go_loopw [3] (fun i wr => i = .int .i64 0 ∧ wr = w) (fun _ _ => 0)
  case atStart => exact ⟨rfl, rfl⟩
  case round =>
    obtain ⟨rfl, rfl⟩ := hrel
    go_wp2
    go_ret
    exact ⟨rfl, rfl⟩

theorem fillByteList_nil (w : World) (bk N : Nat) (bs : Value) (h : w.heap[bk]? = some (.cells (bookC N bs) 46 (0, 0))) : Calls Tryz.prog 42 #[.pointer (some ⟨bk, 0, none⟩)] w fun e w' => e = .returned (.tuple #[]) ∧ w = w' := by
  have f1 : w.cell? ⟨bk, 5, none⟩ = some (.slice none 0 0) := by rw [cell_of_block h]; rfl
  clear h
  go_enter Tryz.func42, Tryz.ntmps42
  go_wp2
  go_loopw [2] (fun i wr => i = .int .i64 0 ∧ wr = w) (fun _ _ => 0)
  case atStart => exact ⟨rfl, rfl⟩
  case round =>
    obtain ⟨rfl, rfl⟩ := hrel
    go_wp2
    go_end0
    exact ⟨rfl, rfl⟩

theorem growByteList_nil (w : World) (bk N : Nat) (bs : Value) (h : w.heap[bk]? = some (.cells (bookC N bs) 46 (0, 0))) : Calls Tryz.prog 51 #[.pointer (some ⟨bk, 0, none⟩)] w fun e w' => e = .returned (.tuple #[]) ∧ w = w' := by
  have f1 : w.cell? ⟨bk, 5, none⟩ = some (.slice none 0 0) := by rw [cell_of_block h]; rfl
  clear h
  go_enter Tryz.func51, Tryz.ntmps51
  go_wp2
  go_loopw [2] (fun i wr => i = .int .i64 0 ∧ wr = w) (fun _ _ => 0)
  case atStart => exact ⟨rfl, rfl⟩
  case round =>
    obtain ⟨rfl, rfl⟩ := hrel
    go_wp2
    go_end0
    exact ⟨rfl, rfl⟩

theorem lookByteList_nil (w : World) (bk N : Nat) (bs : Value) (h : w.heap[bk]? = some (.cells (bookC N bs) 46 (0, 0))) : Calls Tryz.prog 60 #[.pointer (some ⟨bk, 0, none⟩)] w fun e w' => e = .returned (.bool true) ∧ w = w' := by
  have f1 : w.cell? ⟨bk, 5, none⟩ = some (.slice none 0 0) := by rw [cell_of_block h]; rfl
  clear h
  go_enter Tryz.func60, Tryz.ntmps60
  go_wp2
  go_loopw [3] (fun i wr => i = .int .i64 0 ∧ wr = w) (fun _ _ => 0)
  case atStart => exact ⟨rfl, rfl⟩
  case round =>
    obtain ⟨rfl, rfl⟩ := hrel
    go_wp2
    go_ret
    exact ⟨rfl, rfl⟩

theorem fillWhy_nil (w : World) (bk N : Nat) (bs : Value) (h : w.heap[bk]? = some (.cells (bookC N bs) 46 (0, 0))) : Calls Tryz.prog 43 #[.pointer (some ⟨bk, 0, none⟩)] w fun e w' => e = .returned (.tuple #[]) ∧ w = w' := by
  have f1 : w.cell? ⟨bk, 6, none⟩ = some (.slice none 0 0) := by rw [cell_of_block h]; rfl
  clear h
  go_enter Tryz.func43, Tryz.ntmps43
  go_wp2
  go_loopw [2] (fun i wr => i = .int .i64 0 ∧ wr = w) (fun _ _ => 0)
  case atStart => exact ⟨rfl, rfl⟩
  case round =>
    obtain ⟨rfl, rfl⟩ := hrel
    go_wp2
    go_end0
    exact ⟨rfl, rfl⟩

theorem growWhy_nil (w : World) (bk N : Nat) (bs : Value) (h : w.heap[bk]? = some (.cells (bookC N bs) 46 (0, 0))) : Calls Tryz.prog 52 #[.pointer (some ⟨bk, 0, none⟩)] w fun e w' => e = .returned (.tuple #[]) ∧ w = w' := by
  have f1 : w.cell? ⟨bk, 6, none⟩ = some (.slice none 0 0) := by rw [cell_of_block h]; rfl
  clear h
  go_enter Tryz.func52, Tryz.ntmps52
  go_wp2
  go_loopw [2] (fun i wr => i = .int .i64 0 ∧ wr = w) (fun _ _ => 0)
  case atStart => exact ⟨rfl, rfl⟩
  case round =>
    obtain ⟨rfl, rfl⟩ := hrel
    go_wp2
    go_end0
    exact ⟨rfl, rfl⟩

theorem lookWhy_nil (w : World) (bk N : Nat) (bs : Value) (h : w.heap[bk]? = some (.cells (bookC N bs) 46 (0, 0))) : Calls Tryz.prog 61 #[.pointer (some ⟨bk, 0, none⟩)] w fun e w' => e = .returned (.bool true) ∧ w = w' := by
  have f1 : w.cell? ⟨bk, 6, none⟩ = some (.slice none 0 0) := by rw [cell_of_block h]; rfl
  clear h
  go_enter Tryz.func61, Tryz.ntmps61
  go_wp2
  go_loopw [3] (fun i wr => i = .int .i64 0 ∧ wr = w) (fun _ _ => 0)
  case atStart => exact ⟨rfl, rfl⟩
  case round =>
    obtain ⟨rfl, rfl⟩ := hrel
    go_wp2
    go_ret
    exact ⟨rfl, rfl⟩

theorem fillFrame_nil (w : World) (bk N : Nat) (bs : Value) (h : w.heap[bk]? = some (.cells (bookC N bs) 46 (0, 0))) : Calls Tryz.prog 44 #[.pointer (some ⟨bk, 0, none⟩)] w fun e w' => e = .returned (.tuple #[]) ∧ w = w' := by
  have f1 : w.cell? ⟨bk, 7, none⟩ = some (.slice none 0 0) := by rw [cell_of_block h]; rfl
  clear h
  go_enter Tryz.func44, Tryz.ntmps44
  go_wp2
  go_loopw [2] (fun i wr => i = .int .i64 0 ∧ wr = w) (fun _ _ => 0)
  case atStart => exact ⟨rfl, rfl⟩
  case round =>
    obtain ⟨rfl, rfl⟩ := hrel
    go_wp2
    go_end0
    exact ⟨rfl, rfl⟩

theorem growFrame_nil (w : World) (bk N : Nat) (bs : Value) (h : w.heap[bk]? = some (.cells (bookC N bs) 46 (0, 0))) : Calls Tryz.prog 53 #[.pointer (some ⟨bk, 0, none⟩)] w fun e w' => e = .returned (.tuple #[]) ∧ w = w' := by
  have f1 : w.cell? ⟨bk, 7, none⟩ = some (.slice none 0 0) := by rw [cell_of_block h]; rfl
  clear h
  go_enter Tryz.func53, Tryz.ntmps53
  go_wp2
  go_loopw [2] (fun i wr => i = .int .i64 0 ∧ wr = w) (fun _ _ => 0)
  case atStart => exact ⟨rfl, rfl⟩
  case round =>
    obtain ⟨rfl, rfl⟩ := hrel
    go_wp2
    go_end0
    exact ⟨rfl, rfl⟩

theorem lookFrame_nil (w : World) (bk N : Nat) (bs : Value) (h : w.heap[bk]? = some (.cells (bookC N bs) 46 (0, 0))) : Calls Tryz.prog 62 #[.pointer (some ⟨bk, 0, none⟩)] w fun e w' => e = .returned (.bool true) ∧ w = w' := by
  have f1 : w.cell? ⟨bk, 7, none⟩ = some (.slice none 0 0) := by rw [cell_of_block h]; rfl
  clear h
  go_enter Tryz.func62, Tryz.ntmps62
  go_wp2
  go_loopw [3] (fun i wr => i = .int .i64 0 ∧ wr = w) (fun _ _ => 0)
  case atStart => exact ⟨rfl, rfl⟩
  case round =>
    obtain ⟨rfl, rfl⟩ := hrel
    go_wp2
    go_ret
    exact ⟨rfl, rfl⟩

theorem fillReply_nil (w : World) (bk N : Nat) (bs : Value) (h : w.heap[bk]? = some (.cells (bookC N bs) 46 (0, 0))) : Calls Tryz.prog 45 #[.pointer (some ⟨bk, 0, none⟩)] w fun e w' => e = .returned (.tuple #[]) ∧ w = w' := by
  have f1 : w.cell? ⟨bk, 8, none⟩ = some (.slice none 0 0) := by rw [cell_of_block h]; rfl
  clear h
  go_enter Tryz.func45, Tryz.ntmps45
  go_wp2
  go_loopw [2] (fun i wr => i = .int .i64 0 ∧ wr = w) (fun _ _ => 0)
  case atStart => exact ⟨rfl, rfl⟩
  case round =>
    obtain ⟨rfl, rfl⟩ := hrel
    go_wp2
    go_end0
    exact ⟨rfl, rfl⟩

theorem growReply_nil (w : World) (bk N : Nat) (bs : Value) (h : w.heap[bk]? = some (.cells (bookC N bs) 46 (0, 0))) : Calls Tryz.prog 54 #[.pointer (some ⟨bk, 0, none⟩)] w fun e w' => e = .returned (.tuple #[]) ∧ w = w' := by
  have f1 : w.cell? ⟨bk, 8, none⟩ = some (.slice none 0 0) := by rw [cell_of_block h]; rfl
  clear h
  go_enter Tryz.func54, Tryz.ntmps54
  go_wp2
  go_loopw [2] (fun i wr => i = .int .i64 0 ∧ wr = w) (fun _ _ => 0)
  case atStart => exact ⟨rfl, rfl⟩
  case round =>
    obtain ⟨rfl, rfl⟩ := hrel
    go_wp2
    go_end0
    exact ⟨rfl, rfl⟩

theorem lookReply_nil (w : World) (bk N : Nat) (bs : Value) (h : w.heap[bk]? = some (.cells (bookC N bs) 46 (0, 0))) : Calls Tryz.prog 63 #[.pointer (some ⟨bk, 0, none⟩)] w fun e w' => e = .returned (.bool true) ∧ w = w' := by
  have f1 : w.cell? ⟨bk, 8, none⟩ = some (.slice none 0 0) := by rw [cell_of_block h]; rfl
  clear h
  go_enter Tryz.func63, Tryz.ntmps63
  go_wp2
  go_loopw [3] (fun i wr => i = .int .i64 0 ∧ wr = w) (fun _ _ => 0)
  case atStart => exact ⟨rfl, rfl⟩
  case round =>
    obtain ⟨rfl, rfl⟩ := hrel
    go_wp2
    go_ret
    exact ⟨rfl, rfl⟩

theorem fillRecord_nil (w : World) (bk N : Nat) (bs : Value) (h : w.heap[bk]? = some (.cells (bookC N bs) 46 (0, 0))) : Calls Tryz.prog 46 #[.pointer (some ⟨bk, 0, none⟩)] w fun e w' => e = .returned (.tuple #[]) ∧ w = w' := by
  have f1 : w.cell? ⟨bk, 9, none⟩ = some (.slice none 0 0) := by rw [cell_of_block h]; rfl
  clear h
  go_enter Tryz.func46, Tryz.ntmps46
  go_wp2
  go_loopw [2] (fun i wr => i = .int .i64 0 ∧ wr = w) (fun _ _ => 0)
  case atStart => exact ⟨rfl, rfl⟩
  case round =>
    obtain ⟨rfl, rfl⟩ := hrel
    go_wp2
    go_end0
    exact ⟨rfl, rfl⟩

theorem growRecord_nil (w : World) (bk N : Nat) (bs : Value) (h : w.heap[bk]? = some (.cells (bookC N bs) 46 (0, 0))) : Calls Tryz.prog 55 #[.pointer (some ⟨bk, 0, none⟩)] w fun e w' => e = .returned (.tuple #[]) ∧ w = w' := by
  have f1 : w.cell? ⟨bk, 9, none⟩ = some (.slice none 0 0) := by rw [cell_of_block h]; rfl
  clear h
  go_enter Tryz.func55, Tryz.ntmps55
  go_wp2
  go_loopw [2] (fun i wr => i = .int .i64 0 ∧ wr = w) (fun _ _ => 0)
  case atStart => exact ⟨rfl, rfl⟩
  case round =>
    obtain ⟨rfl, rfl⟩ := hrel
    go_wp2
    go_end0
    exact ⟨rfl, rfl⟩

theorem lookRecord_nil (w : World) (bk N : Nat) (bs : Value) (h : w.heap[bk]? = some (.cells (bookC N bs) 46 (0, 0))) : Calls Tryz.prog 64 #[.pointer (some ⟨bk, 0, none⟩)] w fun e w' => e = .returned (.bool true) ∧ w = w' := by
  have f1 : w.cell? ⟨bk, 9, none⟩ = some (.slice none 0 0) := by rw [cell_of_block h]; rfl
  clear h
  go_enter Tryz.func64, Tryz.ntmps64
  go_wp2
  go_loopw [3] (fun i wr => i = .int .i64 0 ∧ wr = w) (fun _ _ => 0)
  case atStart => exact ⟨rfl, rfl⟩
  case round =>
    obtain ⟨rfl, rfl⟩ := hrel
    go_wp2
    go_ret
    exact ⟨rfl, rfl⟩

end Go.Proofs.YthenakdfdpdknaaGreatDoor

/- A book's lists do not share memory; conditions: those typed. -/
namespace Go.Proofs.YthenakdfdpdknaaGreatDoor
open Go.RowKit
set_option linter.unusedVariables false
set_option linter.unusedSimpArgs false
set_option maxRecDepth 100000

set_option maxHeartbeats 4000000 in
theorem apart_any (w : World) (B bk N : Nat) (bs : Value) (H : List Hl) (h : Bk w B bk N bs H) (hsm : ∀ i (hi : i < H.length), H[i].l.n ≤ 100000000) :
    Calls Tryz.prog 23 #[.pointer (some ⟨bk, 0, none⟩)] w fun e w' => e = .returned (.bool true) ∧ Below B w w' := by
  have HH := Lib.hid h
  have HS := Lib.hid hsm
  clear h hsm
  go_enter Tryz.func23, Tryz.ntmps23
  go_wp2_with fail
  refine (fillByte_any w B bk N bs H HH.out).mono ?_
  rintro e w1 ⟨rfl, hb1, hk1, hf1⟩
  have HB1 := Lib.hid hb1
  have HK1 := Lib.hid hk1
  have HF1 := Lib.hid hf1
  clear hb1 hk1 hf1
  go_wp2_with fail
  refine (fillInt_nil w1 bk N bs HK1.out.book).mono ?_
  rintro e w9 ⟨rfl, rfl⟩
  go_wp2_with fail
  refine (fillText_nil w1 bk N bs HK1.out.book).mono ?_
  rintro e w9 ⟨rfl, rfl⟩
  go_wp2_with fail
  refine (fillIntList_nil w1 bk N bs HK1.out.book).mono ?_
  rintro e w9 ⟨rfl, rfl⟩
  go_wp2_with fail
  refine (fillByteList_nil w1 bk N bs HK1.out.book).mono ?_
  rintro e w9 ⟨rfl, rfl⟩
  go_wp2_with fail
  refine (fillWhy_nil w1 bk N bs HK1.out.book).mono ?_
  rintro e w9 ⟨rfl, rfl⟩
  go_wp2_with fail
  refine (fillFrame_nil w1 bk N bs HK1.out.book).mono ?_
  rintro e w9 ⟨rfl, rfl⟩
  go_wp2_with fail
  refine (fillReply_nil w1 bk N bs HK1.out.book).mono ?_
  rintro e w9 ⟨rfl, rfl⟩
  go_wp2_with fail
  refine (fillRecord_nil w1 bk N bs HK1.out.book).mono ?_
  rintro e w9 ⟨rfl, rfl⟩
  go_wp2_with fail
  refine (growByte_any w1 B bk N bs H HK1.out HF1.out HS.out).mono ?_
  rintro e w2 ⟨rfl, hb2, H', hl', hk2, hg2, hs2⟩
  have HB2 := Lib.hid (HB1.out.trans hb2)
  have HK2 := Lib.hid hk2
  have HF2 := Lib.hid hg2.lists
  have HG2 : Hid (∀ i (hi : i < H'.length), HFill w2 H'[i].g (mk H'[i].m) ∧ H'[i].g.n = H'[i].l.n + 40) := Lib.hid (fun i hi => ⟨(hg2.longs i hi (by omega)).1, (hg2.longs i hi (by omega)).2.1⟩)
  have HS2 := Lib.hid hs2
  clear hb2 hk2 hg2 hs2 hl'
  go_wp2_with fail
  refine (growInt_nil w2 bk N bs HK2.out.book).mono ?_
  rintro e w9 ⟨rfl, rfl⟩
  go_wp2_with fail
  refine (growText_nil w2 bk N bs HK2.out.book).mono ?_
  rintro e w9 ⟨rfl, rfl⟩
  go_wp2_with fail
  refine (growIntList_nil w2 bk N bs HK2.out.book).mono ?_
  rintro e w9 ⟨rfl, rfl⟩
  go_wp2_with fail
  refine (growByteList_nil w2 bk N bs HK2.out.book).mono ?_
  rintro e w9 ⟨rfl, rfl⟩
  go_wp2_with fail
  refine (growWhy_nil w2 bk N bs HK2.out.book).mono ?_
  rintro e w9 ⟨rfl, rfl⟩
  go_wp2_with fail
  refine (growFrame_nil w2 bk N bs HK2.out.book).mono ?_
  rintro e w9 ⟨rfl, rfl⟩
  go_wp2_with fail
  refine (growReply_nil w2 bk N bs HK2.out.book).mono ?_
  rintro e w9 ⟨rfl, rfl⟩
  go_wp2_with fail
  refine (growRecord_nil w2 bk N bs HK2.out.book).mono ?_
  rintro e w9 ⟨rfl, rfl⟩
  go_wp2_with fail
  refine (lookByte_any w2 B bk N bs H' HK2.out HF2.out HG2.out HS2.out).mono ?_
  rintro e w3 ⟨rfl, hb3⟩
  have HB3 := Lib.hid (HB2.out.trans (hb3.mono (Nat.le_trans HK2.out.le (Nat.le_of_lt (lt_of_heap HK2.out.book)))))
  have HK3 := Lib.hid (HK2.out.below hb3)
  clear hb3
  go_wp2_with fail
  refine (lookInt_nil w3 bk N bs HK3.out.book).mono ?_
  rintro e w9 ⟨rfl, rfl⟩
  go_wp2_with fail
  refine (lookText_nil w3 bk N bs HK3.out.book).mono ?_
  rintro e w9 ⟨rfl, rfl⟩
  go_wp2_with fail
  refine (lookIntList_nil w3 bk N bs HK3.out.book).mono ?_
  rintro e w9 ⟨rfl, rfl⟩
  go_wp2_with fail
  refine (lookByteList_nil w3 bk N bs HK3.out.book).mono ?_
  rintro e w9 ⟨rfl, rfl⟩
  go_wp2_with fail
  refine (lookWhy_nil w3 bk N bs HK3.out.book).mono ?_
  rintro e w9 ⟨rfl, rfl⟩
  go_wp2_with fail
  refine (lookFrame_nil w3 bk N bs HK3.out.book).mono ?_
  rintro e w9 ⟨rfl, rfl⟩
  go_wp2_with fail
  refine (lookReply_nil w3 bk N bs HK3.out.book).mono ?_
  rintro e w9 ⟨rfl, rfl⟩
  go_wp2_with fail
  refine (lookRecord_nil w3 bk N bs HK3.out.book).mono ?_
  rintro e w9 ⟨rfl, rfl⟩
  go_wp2
  go_ret
  exact ⟨rfl, HB3.out⟩

/-- A list is told to a book. -/
theorem bytes_any (w : World) (B bk N : Nat) (bs : Value) (H : List Hl) (h : Bk w B bk N bs H) (x : Hd) (hx : HOk w B x) (hap : ∀ i (hi : i < H.length), ∀ g, H[i].l.a = some ⟨g, 0, none⟩ → x.a ≠ some ⟨g, 0, none⟩) (hN : N < 1000000) (hH : H.length < 1000000) :
    Calls Tryz.prog 19 #[.pointer (some ⟨bk, 0, none⟩), x.val] w fun e w' => e = .returned (.tuple #[]) ∧ Touch (BkS w B) w w' ∧ ∃ bs', Bk w' B bk (N + 1) bs' (H ++ [⟨x, ⟨none, 0, 0⟩, N + 1⟩]) := by
  have HH := Lib.hid h
  clear h
  go_enter Tryz.func19, Tryz.ntmps19
  go_wp2_with fail
  refine (keepByte_any w B bk N bs H HH.out x hx hap hN hH).mono ?_
  rintro e w1 ⟨rfl, h1, h2⟩
  have H1 := Lib.hid h1
  have H2 := Lib.hid h2
  clear h1 h2
  go_wp2
  go_end0
  exact ⟨rfl, H1.out, H2.out⟩

end Go.Proofs.YthenakdfdpdknaaGreatDoor

/- The package disks: what its functions do to a disk in memory; conditions: those typed. -/
namespace Go.Proofs.YthenakdfdpdknaaGreatDoor
open Go.RowKit
set_option linter.unusedVariables false

theorem sizeSec : (Tryz.prog.info? 68).map (·.size) = some 64 := by kernel_rfl

theorem bcells_get (l : List UInt8) (i : Nat) (h : i < l.length) : (bcells l)[i]? = some (.int .u8 l[i].toNat) := by simp [bcells, h]

/-- A sector of noughts. -/
def zsec : List UInt8 := List.replicate 64 0
theorem zsec_length : zsec.length = 64 := by unfold zsec; exact List.length_replicate
def z64 : List Value := bcells zsec
theorem z64_length : z64.length = 64 := by unfold z64; rw [bcells_length, zsec_length]
theorem z64_made : (madeCells (Value.int .u8 0).cells (64 * 1)).toList = z64 := by
  show (madeCells #[Value.int .u8 0] (64 * 1)).toList = z64
  rw [toList_madeCells_one]
  unfold z64 bcells zsec
  rw [List.map_replicate]; rfl

/-- What a disk holds. -/
structure Dsk where
  secs : List (List UInt8)
  left : Int
  blown : Bool
  writes : Int

def Secs (L : List (List UInt8)) : Prop := ∀ s ∈ L, s.length = 64
theorem flat_length {L : List (List UInt8)} (h : Secs L) : L.flatten.length = L.length * 64 := by
  induction L with
  | nil => rfl
  | cons s L ih =>
    rw [List.flatten_cons, List.length_append, ih (fun x hx => h x (List.mem_cons_of_mem _ hx)), h s List.mem_cons_self, List.length_cons]
    omega
theorem flat_get {L : List (List UInt8)} (h : Secs L) (i : Nat) (hi : i < L.length) : (L.flatten.drop (i * 64)).take 64 = L[i] := by
  induction L generalizing i with
  | nil => simp at hi
  | cons s L ih =>
    have hs := h s List.mem_cons_self
    cases i with
    | zero => simp [hs]
    | succ i =>
      have e : (i + 1) * 64 = s.length + i * 64 := by omega
      rw [List.flatten_cons, e, ← List.drop_drop, List.drop_left]
      exact ih (fun x hx => h x (List.mem_cons_of_mem _ hx)) i (by simpa using hi)
theorem flat_set {L : List (List UInt8)} (h : Secs L) (i : Nat) (hi : i < L.length) (x : List UInt8) : (L.set i x).flatten = L.flatten.take (i * 64) ++ x ++ L.flatten.drop (i * 64 + 64) := by
  induction L generalizing i with
  | nil => simp at hi
  | cons s L ih =>
    have hs := h s List.mem_cons_self
    cases i with
    | zero => simp [hs]
    | succ i =>
      have e : (i + 1) * 64 = s.length + i * 64 := by omega
      have e2 : (i + 1) * 64 + 64 = s.length + (i * 64 + 64) := by omega
      rw [List.set_cons_succ, List.flatten_cons, ih (fun x hx => h x (List.mem_cons_of_mem _ hx)) i (by simpa using hi), List.flatten_cons, e2, e, List.take_length_add_append, List.drop_length_add_append]
      simp

/-- A disk in memory: its struct in block bd, its sectors in block bl. -/
structure IsDisk (w : World) (bd bl : Nat) (D : Dsk) : Prop where
  apart : bd ≠ bl
  pos : 1 ≤ D.secs.length
  most : D.secs.length ≤ 1024
  secs : Secs D.secs
  cells : w.heap[bd]? = some (.cells #[.slice (some ⟨bl, 0, none⟩) D.secs.length D.secs.length, .int .i64 D.left, .bool D.blown, .int .i64 D.writes] 62 (0, 0))
  row : w.heap[bl]? = some (.cells (bcells D.secs.flatten).toArray 68 (0, 0))
theorem IsDisk.touch {S : Nat → Prop} {w w' : World} {bd bl : Nat} {D : Dsk} (h : IsDisk w bd bl D) (ht : Touch S w w') (h1 : ¬ S bd) (h2 : ¬ S bl) : IsDisk w' bd bl D :=
  ⟨h.apart, h.pos, h.most, h.secs, ht.heap h.cells h1, ht.heap h.row h2⟩
theorem IsDisk.lt {w : World} {bd bl : Nat} {D : Dsk} (h : IsDisk w bd bl D) : bd < w.heap.size ∧ bl < w.heap.size := ⟨lt_of_heap h.cells, lt_of_heap h.row⟩
theorem IsDisk.field {w : World} {bd bl : Nat} {D : Dsk} (h : IsDisk w bd bl D) :
    w.cell? ⟨bd, 0, none⟩ = some (.slice (some ⟨bl, 0, none⟩) D.secs.length D.secs.length) ∧ w.cell? ⟨bd, 1, none⟩ = some (.int .i64 D.left) ∧ w.cell? ⟨bd, 2, none⟩ = some (.bool D.blown) ∧ w.cell? ⟨bd, 3, none⟩ = some (.int .i64 D.writes) := by
  refine ⟨?_, ?_, ?_, ?_⟩ <;> rw [cell_of_block h.cells] <;> rfl
theorem IsDisk.byte {w : World} {bd bl : Nat} {D : Dsk} (h : IsDisk w bd bl D) (i j : Nat) (hi : i < D.secs.length) (hj : j < 64) : w.cell? ⟨bl, i * 64 + j, none⟩ = some (.int .u8 ((D.secs[i]).getD j 0).toNat) := by
  rw [cell_of_block h.row]
  have hg := flat_get h.secs i hi
  have hl := flat_length h.secs
  have h64 := h.secs _ (List.getElem_mem hi)
  have hlt : i * 64 + j < D.secs.flatten.length := by rw [hl]; omega
  have : D.secs.flatten[i * 64 + j]? = (D.secs[i])[j]? := by
    rw [← hg, List.getElem?_take, if_pos hj, List.getElem?_drop]
  have hj' : j < (D.secs[i]).length := by omega
  rw [List.getElem?_eq_getElem hlt, List.getElem?_eq_getElem hj'] at this
  have hb : (bcells D.secs.flatten).toArray[i * 64 + j]? = some (.int .u8 (D.secs.flatten[i * 64 + j]).toNat) := by rw [List.getElem?_toArray]; exact bcells_get _ _ hlt
  rw [hb, Option.some.inj this]
  simp [hj']

theorem IsDisk.apartB {w : World} {bd bl : Nat} {D : Dsk} (h : IsDisk w bd bl D) {a : Option Addr} {n c : Nat} {l : List UInt8} (hb : IsB w a n c l) : ∀ b off, a = some ⟨b, off, none⟩ → l ≠ [] → ¬ (b = bd) := by
  intro b off ha hl hbd
  subst hbd
  obtain ⟨_, _, _, ⟨h4, _⟩ | ⟨b', off', hv, _, hc⟩⟩ := hb
  · exact hl h4
  · rw [ha] at hv
    cases hv
    have h0 := hc 0 (List.length_pos_iff.2 hl)
    rw [cell_of_block h.cells] at h0
    match off, h0 with
    | 0, h0 => simp at h0
    | 1, h0 => simp at h0
    | 2, h0 => simp at h0
    | 3, h0 => simp at h0
    | k + 4, h0 => simp at h0

/-- A fresh row of bytes. -/
def RowB (w : World) (g : Nat) (l : List UInt8) : Prop := w.heap[g]? = some (.cells (bcells l).toArray 5 (0, 0))
theorem RowB.isB {w : World} {g : Nat} {l : List UInt8} (h : RowB w g l) (hm : l.length ≤ maxLen) : IsB w (some ⟨g, 0, none⟩) l.length l.length l :=
  ⟨rfl, Nat.le_refl _, hm, .inr ⟨g, 0, rfl, lt_of_heap h, fun i hi => by rw [Nat.zero_add, cell_of_block h]; simp [bcells, hi]⟩⟩

/-! ### New -/
theorem infoSec : (Tryz.prog.info? 68).map (fun i => (i.zero, i.size, i.bytes)) = some (some (.agg (Array.replicate 64 (.int .u8 0))), 64, 64) := by kernel_rfl
theorem rowSec : RowTy Tryz.prog 60 68 64 64 (.agg (Array.replicate 64 (.int .u8 0))) := ⟨Tryz.underlying60, infoSec, by simp [Value.cells], by decide⟩
theorem new_bad (n : Int) (w : World) (hn : n < 1 ∨ 1024 < n) :
    Calls Tryz.prog 5 #[.int .i64 n] w fun e w' => e = .returned (.tuple #[.pointer none, .int .i64 1]) ∧ w = w' := by
  rcases hn with hn | hn
  · go_enter Tryz.func5, Tryz.ntmps5
    go_wp2
    go_ret2
    exact ⟨rfl, rfl⟩
  · have h1 : ¬ n < 1 := by omega
    go_enter Tryz.func5, Tryz.ntmps5
    go_wp2
    go_ret2
    exact ⟨rfl, rfl⟩

theorem made_zeros (k : Nat) : (madeCells (Value.agg (Array.replicate 64 (.int .u8 0))).cells (k * 64)).toList = bcells (List.replicate k zsec).flatten := by
  unfold zsec
  have h1 : (List.replicate k (List.replicate 64 (0 : UInt8))).flatten = List.replicate (k * 64) 0 := List.flatten_replicate_replicate
  rw [h1]
  unfold bcells
  rw [List.map_replicate]
  apply List.ext_getElem
  · simp [madeCells]
  · intro i h2 h3
    simp [madeCells, Value.cells]
    have : i % 64 < 64 := Nat.mod_lt _ (by decide)
    simp [this]
theorem row_of_owns {w : World} {base e size g n : Nat} {xs : List Value} (h : w.ownsRow base e size (.slice (some ⟨g, 0, none⟩) n n) n xs) : w.heap[g]? = some (.cells xs.toArray e (0, 0)) ∧ base ≤ g := by
  rcases h.2 with ⟨h', _⟩ | ⟨g', cap', cur, h', hb, hg, hnc, hcm, hcs, htake⟩
  · simp at h'
  · cases h'
    have : cur.toList = xs := by rw [← htake, ← hcs, ← Array.length_toList, List.take_length]
    exact ⟨by rw [hg, ← this], hb⟩

theorem new_good (n : Nat) (w : World) (h1 : 1 ≤ n) (h2 : n ≤ 1024) :
    Calls Tryz.prog 5 #[.int .i64 n] w fun e w' => ∃ bd bl, e = .returned (.tuple #[.pointer (some ⟨bd, 0, none⟩), .int .i64 0]) ∧ Below w.heap.size w w' ∧ w.heap.size ≤ bd ∧ w.heap.size ≤ bl ∧
      IsDisk w' bd bl ⟨List.replicate n zsec, -1, false, 0⟩ := by
  have hd1 : decide ((n : Int) < 1) = false := by simp; omega
  have hd2 : decide ((1024 : Int) < (n : Int)) = false := by simp; omega
  obtain ⟨i0, hi, hz0, hz1, hz2⟩ := info_parts infoSec
  go_enter Tryz.func5, Tryz.ntmps5
  go_wp2_with (refine wpList_make_full _ rfl _ _ 60 rfl w.heap.size 68 i0 _ 64 Tryz.underlying60 hi hz0 hz1 .i64 .i64 _ _ n rfl rfl rfl rfl (by rw [hz2]; omega) (by unfold maxLen; omega) (Nat.le_refl _) ?_; intro w1 hown1 hg1)
  go_ret2
  rw [made_zeros] at hown1
  obtain ⟨hrow, _⟩ := row_of_owns hown1
  have hs := hg1.size
  have hlt := lt_of_heap hrow
  refine ⟨w1.heap.size, w.heap.size, rfl, ((Below.refl _ _).grown hg1 (Nat.le_refl _) (by simp)).alloc hs _, hs, Nat.le_refl _, ?_⟩
  exact ⟨by omega, by simpa using h1, by simpa using h2, fun s hs => by rw [List.eq_of_mem_replicate hs]; exact zsec_length, by rw [heap_new]; simp, by
    rw [Below.heap_alloc _ _ _ hlt]; exact hrow⟩

/-! ### what only reads -/
theorem len_disk (bd bl : Nat) (D : Dsk) (w : World) (h : IsDisk w bd bl D) :
    Calls Tryz.prog 65 #[.pointer (some ⟨bd, 0, none⟩)] w fun e w' => e = .returned (.int .i64 D.secs.length) ∧ w = w' := by
  obtain ⟨f0, f1, f2, f3⟩ := h.field
  go_enter Tryz.func65, Tryz.ntmps65
  go_wp2
  go_ret
  exact ⟨rfl, rfl⟩
theorem len_nil (w : World) : Calls Tryz.prog 65 #[.pointer none] w fun e w' => e = .returned (.int .i64 0) ∧ w = w' := by
  go_enter Tryz.func65, Tryz.ntmps65
  go_wp2
  go_ret
  exact ⟨rfl, rfl⟩

/-! ### Read -/
theorem read_bad (bd bl : Nat) (D : Dsk) (n : Int) (w : World) (h : IsDisk w bd bl D) (hn : n < 0 ∨ D.secs.length ≤ n) :
    Calls Tryz.prog 91 #[.pointer (some ⟨bd, 0, none⟩), .int .i64 n] w fun e w' => e = .returned (.tuple #[.slice none 0 0, .int .i64 1]) ∧ w = w' := by
  obtain ⟨f0, f1, f2, f3⟩ := h.field
  have hp := h.pos
  have hne : ((D.secs.length : Int) == 0) = false := by rw [beq_eq_false_iff_ne]; omega
  rcases hn with hn | hn
  · have h0 : decide ((0 : Int) ≤ n) = false := by simpa using hn
    go_enter Tryz.func91, Tryz.ntmps91
    go_wp2
    go_ret2
    exact ⟨rfl, rfl⟩
  · have h0 : decide ((0 : Int) ≤ n) = true := by simp; omega
    have h1 : decide (n < (D.secs.length : Int)) = false := by simpa using hn
    go_enter Tryz.func91, Tryz.ntmps91
    go_wp2
    go_ret2
    exact ⟨rfl, rfl⟩

theorem there_ok (bd bl : Nat) (D : Dsk) (n : Nat) (w : World) (h : IsDisk w bd bl D) (hn : n < D.secs.length) :
    Calls Tryz.prog 25 #[.pointer (some ⟨bd, 0, none⟩), .int .i64 n, .func (Fn.func 24) #[.pointer (some ⟨bd, 0, none⟩)] #[]] w fun e w' => e = .returned (.int .i64 0) ∧ w = w' := by
  obtain ⟨f0, f1, f2, f3⟩ := h.field
  have hp := h.pos
  have hne : ((D.secs.length : Int) == 0) = false := by rw [beq_eq_false_iff_ne]; omega
  go_enter Tryz.func25, Tryz.ntmps25
  go_wp2
  go_ret
  exact ⟨rfl, rfl⟩

theorem IsDisk.at {w : World} {bd bl : Nat} {D : Dsk} (h : IsDisk w bd bl D) (n : Nat) (hn : n < D.secs.length) : At w (some ⟨bl, n * 64, none⟩) (bcells D.secs[n]) := by
  have h64 := h.secs _ (List.getElem_mem hn)
  refine At.of_cells fun j hj => ?_
  rw [bcells_length] at hj
  rw [h.byte n j hn (by omega)]
  have hj' : j < D.secs[n].length := hj
  simp [bcells, hj']

theorem read_good (bd bl : Nat) (D : Dsk) (n : Nat) (w : World) (h : IsDisk w bd bl D) (hn : n < D.secs.length) :
    Calls Tryz.prog 91 #[.pointer (some ⟨bd, 0, none⟩), .int .i64 n] w fun e w' => ∃ g, e = .returned (.tuple #[.slice (some ⟨g, 0, none⟩) 64 64, .int .i64 0]) ∧ Below w.heap.size w w' ∧ w.heap.size ≤ g ∧ RowB w' g D.secs[n] := by
  obtain ⟨i0, hi, hz0, hz1, hz2⟩ := info_parts infoU8
  have hmost := h.most
  have h64 := h.secs _ (List.getElem_mem hn)
  go_enter Tryz.func91, Tryz.ntmps91
  go_wp2_with fail
  refine (there_ok bd bl D n w h hn).mono ?_; rintro e w' ⟨rfl, rfl⟩
  go_wp2_with (first
    | (refine wpList_make_full _ rfl _ _ 24 rfl w.heap.size 5 i0 _ 1 Tryz.underlying24 hi hz0 hz1 .i64 .i64 _ _ 64 rfl rfl rfl rfl (by rw [hz2]; decide) (by decide) (Nat.le_refl _) ?_; intro w1 hown1 hg1; have hb1 : Below w.heap.size w w1 := (Below.refl _ _).grown hg1 (Nat.le_refl _) (by simp); have h1 := h.touch (Touch.of_below (S := fun _ => False) hb1) id id; obtain ⟨f0, f1, f2, f3⟩ := h1.field; rw [z64_made] at hown1; have hrow := (row_of_owns hown1).1)
    | (refine wpList_copy_any rowU8 rfl (.tmp 17) (.tmp 24) _ rfl _ _ _ _ _ _ rfl rfl w.heap.size 0 _ _ hrow (bcells D.secs[n]) (by rw [bcells_length, h64]; rfl) (fun _ => rfl) (h1.at n hn) (by rw [bcells_length, h64]; simp [z64_length]) (bcells_one _) ?_; intro w2 hg2 ht2)
    | fail)
  go_ret2
  have e : (List.take 0 z64.toArray.toList ++ bcells D.secs[n] ++ List.drop (0 + (bcells D.secs[n]).length) z64.toArray.toList).toArray = (bcells D.secs[n]).toArray := by
    simp [bcells_length, h64, z64_length]
  rw [e] at hg2
  exact ⟨_, rfl, hb1.trans (ht2.below hb1.size (fun k hk => by omega)), Nat.le_refl _, hg2⟩

/-! ### Fuse -/
theorem fuse_blown (bd bl : Nat) (D : Dsk) (n : Int) (w : World) (h : IsDisk w bd bl D) (hB : D.blown = true) :
    Calls Tryz.prog 10 #[.pointer (some ⟨bd, 0, none⟩), .int .i64 n] w fun e w' => e = .returned (.int .i64 8) ∧ w = w' := by
  obtain ⟨f0, f1, f2, f3⟩ := h.field
  have hp := h.pos
  have hne : ((D.secs.length : Int) == 0) = false := by rw [beq_eq_false_iff_ne]; omega
  rw [hB] at f2
  go_enter Tryz.func10, Tryz.ntmps10
  go_wp2
  go_ret
  exact ⟨rfl, rfl⟩
theorem fuse_ok (bd bl : Nat) (D : Dsk) (n : Int) (w : World) (h : IsDisk w bd bl D) (hB : D.blown = false) :
    Calls Tryz.prog 10 #[.pointer (some ⟨bd, 0, none⟩), .int .i64 n] w fun e w' => e = .returned (.int .i64 0) ∧ Touch (fun k => k = bd) w w' ∧ IsDisk w' bd bl { D with left := n } := by
  obtain ⟨f0, f1, f2, f3⟩ := h.field
  have hp := h.pos
  have hne : ((D.secs.length : Int) == 0) = false := by rw [beq_eq_false_iff_ne]; omega
  have hfr : ∀ i, w.frozen? ⟨bd, i, none⟩ = false := fun i => by simp [World.frozen?, h.cells]
  rw [hB] at f2
  have H := Lib.hid h
  clear h
  go_enter Tryz.func10, Tryz.ntmps10
  go_wp2
  go_ret
  have h := H.out
  refine ⟨rfl, (Touch.refl _ _).setCell _ _ (.inl rfl), ⟨h.apart, h.pos, h.most, h.secs, ?_, ?_⟩⟩
  · rw [heap_setCell_same _ _ _ _ _ _ h.cells]; rfl
  · rw [Below.heap_setCell _ _ _ _ (Ne.symm h.apart)]; exact h.row

end Go.Proofs.YthenakdfdpdknaaGreatDoor

/- disks: Write; conditions: those typed. -/
namespace Go.Proofs.YthenakdfdpdknaaGreatDoor
open Go.RowKit
set_option linter.unusedVariables false

/-- bytes as a sector. -/
def padS (b : List UInt8) : List UInt8 := b ++ List.replicate (64 - b.length) 0
theorem padS_length (b : List UInt8) (h : b.length ≤ 64) : (padS b).length = 64 := by unfold padS; simp; omega

/-- What Write does. -/
def Dsk.write (D : Dsk) (n : Int) (b : List UInt8) : Int × Dsk :=
  if n < 0 ∨ (D.secs.length : Int) ≤ n ∨ 64 < b.length then (1, D)
  else if D.blown = true ∨ D.left = 0 then (8, { D with blown := true })
  else (0, { D with secs := D.secs.set n.toNat (padS b), left := if 0 < D.left then D.left - 1 else D.left, writes := D.writes + 1 })

/-- what 'there' answers to Write's question. -/
def thereI (D : Dsk) (n : Int) (m : Nat) : Int := if n < 0 ∨ (D.secs.length : Int) ≤ n ∨ 64 < m then 1 else 0

set_option maxHeartbeats 1000000 in
theorem there_w (bd bl : Nat) (D : Dsk) (n : Int) (a : Option Addr) (m c bh bb : Nat) (w : World) (h : IsDisk w bd bl D)
    (hh : w.cell? ⟨bh, 0, none⟩ = some (.func (Fn.func 24) #[.pointer (some ⟨bd, 0, none⟩)] #[])) (hb : w.cell? ⟨bb, 0, none⟩ = some (.slice a m c)) :
    Calls Tryz.prog 25 #[.pointer (some ⟨bd, 0, none⟩), .int .i64 n, .func (Fn.func 26) #[] #[.pointer (some ⟨bh, 0, none⟩), .pointer (some ⟨bb, 0, none⟩)]] w
      fun e w' => e = .returned (.int .i64 (thereI D n m)) ∧ w = w' := by
  obtain ⟨f0, f1, f2, f3⟩ := h.field
  have hp := h.pos
  have hne : ((D.secs.length : Int) == 0) = false := by rw [beq_eq_false_iff_ne]; omega
  clear h
  by_cases c0 : n < 0
  · have HV : Hid (thereI D n m = 1) := Lib.hid (if_pos (.inl c0))
    have h0 : decide ((0 : Int) ≤ n) = false := by simpa using c0
    go_enter Tryz.func25, Tryz.ntmps25
    go_wp2
    go_ret
    exact ⟨by rw [HV.out]; rfl, rfl⟩
  · have h0 : decide ((0 : Int) ≤ n) = true := by simp; omega
    by_cases c1 : (D.secs.length : Int) ≤ n
    · have HV : Hid (thereI D n m = 1) := Lib.hid (if_pos (.inr (.inl c1)))
      have h1 : decide (n < (D.secs.length : Int)) = false := by simpa using c1
      go_enter Tryz.func25, Tryz.ntmps25
      go_wp2
      go_ret
      exact ⟨by rw [HV.out]; rfl, rfl⟩
    · have h1 : decide (n < (D.secs.length : Int)) = true := by simp; omega
      by_cases c2 : 64 < m
      · have HV : Hid (thereI D n m = 1) := Lib.hid (if_pos (.inr (.inr c2)))
        have h2 : decide ((m : Int) ≤ 64) = false := by simp; omega
        go_enter Tryz.func25, Tryz.ntmps25
        go_wp2
        go_ret
        exact ⟨by rw [HV.out]; rfl, rfl⟩
      · have HV : Hid (thereI D n m = 0) := Lib.hid (if_neg (by omega))
        have h2 : decide ((m : Int) ≤ 64) = true := by simp; omega
        go_enter Tryz.func25, Tryz.ntmps25
        go_wp2
        go_ret
        exact ⟨by rw [HV.out]; rfl, rfl⟩

/-- the two variables that Write lays first. -/
abbrev wW (w : World) (bd : Nat) (a : Option Addr) (m c : Nat) : World := (w.alloc (.cells #[.slice a m c] 24)).alloc (.cells #[.func (Fn.func 24) #[.pointer (some ⟨bd, 0, none⟩)] #[]] 66)
theorem wW_below (w : World) (bd : Nat) (a : Option Addr) (m c : Nat) : Below w.heap.size w (wW w bd a m c) := ((Below.refl _ _).alloc (Nat.le_refl _) _).alloc (by simp) _
theorem wW_cells (w : World) (bd : Nat) (a : Option Addr) (m c : Nat) : (wW w bd a m c).cell? ⟨w.heap.size + 1, 0, none⟩ = some (.func (Fn.func 24) #[.pointer (some ⟨bd, 0, none⟩)] #[]) ∧ (wW w bd a m c).cell? ⟨w.heap.size, 0, none⟩ = some (.slice a m c) := by
  constructor
  · rw [cell_of_block (heap_alloc2_new w _ _)]; rfl
  · rw [cell_of_block (heap_alloc2_old w _ _)]; rfl

theorem wW_set (w : World) (bd : Nat) (a : Option Addr) (m c i : Nat) (v : Value) (h : bd < w.heap.size) : (wW w bd a m c).setCell ⟨bd, i, none⟩ v = ((w.setCell ⟨bd, i, none⟩ v).alloc (.cells #[.slice a m c] 24)).alloc (.cells #[.func (Fn.func 24) #[.pointer (some ⟨bd, 0, none⟩)] #[]] 66) := by
  unfold wW
  rw [World.setCell_alloc_past _ _ _ _ (by simp; omega), World.setCell_alloc_past _ _ _ _ h]

set_option maxHeartbeats 1000000 in
theorem write_bad (bd bl : Nat) (D : Dsk) (n : Int) (a : Option Addr) (m c : Nat) (w : World) (h : IsDisk w bd bl D) (hn : n < 0 ∨ (D.secs.length : Int) ≤ n ∨ 64 < m) :
    Calls Tryz.prog 12 #[.pointer (some ⟨bd, 0, none⟩), .int .i64 n, .slice a m c] w fun e w' => e = .returned (.int .i64 1) ∧ Below w.heap.size w w' := by
  have HV : Hid (thereI D n m = 1) := Lib.hid (if_pos hn)
  have H := Lib.hid h
  clear h hn
  go_enter Tryz.func12, Tryz.ntmps12
  go_wp2_with fail
  refine (there_w bd bl D n a m c _ _ _ (H.out.touch (Touch.of_below (S := fun _ => False) (wW_below w bd a m c)) id id) (wW_cells w bd a m c).1 (wW_cells w bd a m c).2).mono ?_; rintro e w' ⟨rfl, rfl⟩
  rw [HV.out]
  go_wp2_with fail
  go_ret
  exact ⟨rfl, wW_below w bd a m c⟩

set_option maxHeartbeats 1000000 in
theorem write_blown (bd bl : Nat) (D : Dsk) (n : Int) (a : Option Addr) (m c : Nat) (w : World) (h : IsDisk w bd bl D) (h0 : 0 ≤ n) (h1 : n < D.secs.length) (h2 : m ≤ 64) (hb : D.blown = true ∨ D.left = 0) :
    Calls Tryz.prog 12 #[.pointer (some ⟨bd, 0, none⟩), .int .i64 n, .slice a m c] w fun e w' => e = .returned (.int .i64 8) ∧ Touch (fun k => k = bd) w w' ∧ IsDisk w' bd bl { D with blown := true } := by
  have HV : Hid (thereI D n m = 0) := Lib.hid (if_neg (by omega))
  have hw := h.touch (Touch.of_below (S := fun _ => False) (wW_below w bd a m c)) id id
  obtain ⟨f0, f1, f2, f3⟩ := hw.field
  have hfr : ∀ i, (wW w bd a m c).frozen? ⟨bd, i, none⟩ = false := fun i => by simp [World.frozen?, hw.cells]
  have H := Lib.hid hw
  have hlt := h.lt
  have fin : Touch (fun k => k = bd) w ((wW w bd a m c).setCell ⟨bd, 2, none⟩ (.bool true)) ∧ IsDisk ((wW w bd a m c).setCell ⟨bd, 2, none⟩ (.bool true)) bd bl { D with blown := true } := by
    refine ⟨(Touch.of_below (wW_below w bd a m c)).setCell _ _ (.inl rfl), ⟨h.apart, h.pos, h.most, h.secs, ?_, ?_⟩⟩
    · rw [heap_setCell_same _ _ _ _ _ _ hw.cells]; rfl
    · rw [Below.heap_setCell _ _ _ _ (Ne.symm h.apart)]; exact hw.row
  rw [wW_set w bd a m c 2 _ hlt.1] at fin
  have HF := Lib.hid fin
  clear h hw fin
  by_cases hB : D.blown = true
  · rw [hB] at f2
    clear hb hB
    go_enter Tryz.func12, Tryz.ntmps12
    go_wp2_with fail
    refine (there_w bd bl D n a m c _ _ _ H.out (wW_cells w bd a m c).1 (wW_cells w bd a m c).2).mono ?_; rintro e w' ⟨rfl, rfl⟩
    rw [HV.out]
    go_wp2_with fail
    go_ret
    exact ⟨rfl, HF.out.1, HF.out.2⟩
  · have hB' : D.blown = false := by simpa using hB
    have hl0 : D.left = 0 := by rcases hb with hb | hb
                                · exact absurd hb hB
                                · exact hb
    rw [hB'] at f2
    rw [hl0] at f1
    clear hb hB hB' hl0
    go_enter Tryz.func12, Tryz.ntmps12
    go_wp2_with fail
    refine (there_w bd bl D n a m c _ _ _ H.out (wW_cells w bd a m c).1 (wW_cells w bd a m c).2).mono ?_; rintro e w' ⟨rfl, rfl⟩
    rw [HV.out]
    go_wp2_with fail
    go_ret
    exact ⟨rfl, HF.out.1, HF.out.2⟩

end Go.Proofs.YthenakdfdpdknaaGreatDoor

/- disks: Write, where it is let be; conditions: those typed. -/
namespace Go.Proofs.YthenakdfdpdknaaGreatDoor
open Go.RowKit
set_option linter.unusedVariables false

theorem zeroSec : (Tryz.prog.info? 68).map (·.zero) = some (some (.agg (Array.replicate 64 (.int .u8 0)))) := by kernel_rfl
theorem zeroSec_cells : (Value.agg (Array.replicate 64 (.int .u8 0))).cells = z64.toArray := by
  unfold z64 bcells zsec
  rw [List.map_replicate]
  exact (List.toArray_replicate ..).symm

theorem pad_cells (b : List UInt8) (h : b.length ≤ 64) : (z64.toArray.toList.take 0 ++ bcells b ++ z64.toArray.toList.drop (0 + b.length)).toArray = (bcells (padS b)).toArray := by
  unfold padS z64 zsec
  rw [bcells_append, bcells_zeros, bcells_zeros]
  simp only [List.take_zero, List.nil_append, Nat.zero_add]
  rw [List.drop_replicate]

theorem secs_set {L : List (List UInt8)} (h : Secs L) (n : Nat) (b : List UInt8) (hb : b.length ≤ 64) : Secs (L.set n (padS b)) := by
  intro s hs
  rcases List.mem_or_eq_of_mem_set hs with h1 | h1
  · exact h s h1
  · rw [h1]; exact padS_length b hb

theorem htV_cell {S : Nat → Prop} {w w' : World} (h : Touch S w w') {b o : Nat} {v : Value} (hp : w.cell? ⟨b, o, none⟩ = some v) (hs : ¬ S b) : w'.cell? ⟨b, o, none⟩ = some v := h.cell hp hs

set_option maxRecDepth 100000 in
set_option maxHeartbeats 2000000 in
theorem write_ok_neg (bd bl : Nat) (D : Dsk) (n : Nat) (a : Option Addr) (m c : Nat) (b : List UInt8) (w : World) (h : IsDisk w bd bl D) (h1 : n < D.secs.length) (h2 : m ≤ 64) (hib : IsB w a m c b) (hB : D.blown = false) (hl : D.left < 0) (hw1 : 0 ≤ D.writes) (hw2 : D.writes < 4611686018427387904) :
    Calls Tryz.prog 12 #[.pointer (some ⟨bd, 0, none⟩), .int .i64 n, .slice a m c] w fun e w' => e = .returned (.int .i64 0) ∧ Touch (fun k => k = bd ∨ k = bl) w w' ∧ IsDisk w' bd bl { D with secs := D.secs.set n (padS b), writes := D.writes + 1 } := by
  have HV : Hid (thereI D n m = 0) := Lib.hid (if_neg (by omega))
  have hbel := wW_below w bd a m c
  have hw := h.touch (Touch.of_below (S := fun _ => False) hbel) id id
  have hcb := (wW_cells w bd a m c).2
  have hcf := (wW_cells w bd a m c).1
  have hibW := hib.below hbel
  have hlt := h.lt
  obtain ⟨W, hW⟩ : ∃ W, W = wW w bd a m c := ⟨_, rfl⟩
  rw [← hW] at hbel hw hcb hcf hibW
  have HW := Lib.hid hW
  clear hW
  obtain ⟨f0, f1, f2, f3⟩ := hw.field
  rw [hB] at f2
  have hd0 : (D.left == 0) = false := by rw [beq_eq_false_iff_ne]; omega
  have hd1 : decide (0 < D.left) = false := by simp; omega
  have hfr : ∀ i, W.frozen? ⟨bd, i, none⟩ = false := fun i => by simp [World.frozen?, hw.cells]
  have H := Lib.hid h
  clear h
  go_enter Tryz.func12, Tryz.ntmps12
  go_wp2_with fail
  rw [show (w.alloc (.cells #[.slice a m c] 24)).alloc (.cells #[.func (Fn.func 24) #[.pointer (some ⟨bd, 0, none⟩)] #[]] 66) = W from HW.out.symm]
  refine (there_w bd bl D n a m c _ _ W hw hcf hcb).mono ?_; rintro e w' ⟨rfl, rfl⟩
  rw [HV.out]
  go_wp2_with (refine wpList_alloc_any rfl 68 rfl _ zeroSec _ zeroSec_cells ?_)
  go_frame
  have hblk : (W.alloc (.cells z64.toArray 68)).drew.heap[W.heap.size]? = some (.cells z64.toArray 68 (0, 0)) := heap_new W _
  have hibA : IsB (W.alloc (.cells z64.toArray 68)).drew a m c b := hibW.below (((Below.refl _ _).alloc (Nat.le_refl _) _).drew)
  have hcbA := cell_alloc hcb (.cells z64.toArray 68)
  have hmb := hib.1
  have hlen : Hid ((bcells b).length = Nat.min m 64 * 1) := Lib.hid (by rw [bcells_length, ← hmb, Nat.mul_one]; exact (Nat.min_eq_left h2).symm)
  have hfit : 0 + (bcells b).length ≤ z64.toArray.size := by rw [bcells_length, ← hmb, List.size_toArray, z64_length]; omega
  clear hmb
  go_region_law (first
    | (refine step_copy_any rowU8 rfl (.tmp 48) (.tmp 49) 24 (by rfl) (some ⟨W.heap.size, 0, none⟩) a 64 64 m c (by simp [Act.eval]) (by simp [Act.eval]) W.heap.size 0 z64.toArray 68 hblk (bcells b) hlen.out (fun _ => rfl) hibA.at hfit (bcells_one _) ?_; intro w2 hg2 ht2)
    | fail)
  have epad : (z64.toArray.toList.take 0 ++ bcells b ++ z64.toArray.toList.drop (0 + (bcells b).length)).toArray = (bcells (padS b)).toArray := by
    rw [bcells_length]
    exact pad_cells b (by have := hib.1; omega)
  rw [epad] at hg2
  have hltW := hw.lt
  have hd2 : IsDisk w2 bd bl D := ((hw.touch (Touch.of_below (S := fun _ => False) (((Below.refl _ _).alloc (Nat.le_refl _) (.cells z64.toArray 68)).drew)) id id).touch ht2 (by omega) (by omega))
  have hT2 : Touch (fun k => k = bd ∨ k = bl) w w2 := (((Touch.of_below hbel).alloc (.cells z64.toArray 68)).drew).andThen ht2 (fun j hj => .inr (by have := hbel.size; omega))
  have hWg : W.heap.size < w2.heap.size := lt_of_heap hg2
  clear epad hibA hblk hcbA hfit hlen ht2 f0 f1 f2 f3 hfr
  obtain ⟨f0, f1, f2, f3⟩ := hd2.field
  go_wp2_with fail
  have hu := Tryz.underlying68
  have hi64 : (Tryz.prog.info? 68).map (·.size) = some (bcells (padS b)).length := by rw [bcells_length, padS_length b (by have := hib.1; omega)]; exact sizeSec
  have hlen64 : (bcells (padS b)).length = 64 := by rw [bcells_length, padS_length b (by have := hib.1; omega)]
  have hone := bcells_one (padS b)
  have hr : w2.rangeAt W.heap.size 0 (bcells (padS b)) := rangeAt_row hg2
  have hfl : D.secs.flatten.length = D.secs.length * 64 := flat_length hd2.secs
  have ht : w2.there bl (n * 64) 64 := there_row hd2.row _ _ (by rw [List.size_toArray, bcells_length, hfl]; omega)
  have hap : bd ≠ bl := hd2.apart
  have hkeep : (w2.drew.setCells bl (n * 64) (bcells (padS b))).cell? ⟨bd, 0, none⟩ = some (.slice (some ⟨bl, 0, none⟩) D.secs.length D.secs.length) ∧ (w2.drew.setCells bl (n * 64) (bcells (padS b))).rangeAt W.heap.size 0 (bcells (padS b)) ∧ (w2.drew.setCells bl (n * 64) (bcells (padS b))).there bl (n * 64) 64 := by
    refine ⟨?_, World.rangeAt_setCells_apart (w := w2.drew) hr _ _ _ (by omega), World.there_setCells (w := w2.drew) ht _ _ _⟩
    rw [World.cell?_setCells_out _ _ _ _ _ (fun h => absurd h hap)]
    exact f0
  go_region_held3 (fun w' => w'.cell? ⟨bd, 0, none⟩ = some (.slice (some ⟨bl, 0, none⟩) D.secs.length D.secs.length) ∧ w'.rangeAt W.heap.size 0 (bcells (padS b)) ∧ w'.there bl (n * 64) 64) (first | go_keep_ranges | exact hkeep) (fail)
  obtain ⟨hs1, hs2⟩ := setCells_heap Tryz.prog w2.drew bl (n * 64) (bcells (padS b)) (bcells D.secs.flatten).toArray 68 hd2.row (by rw [List.size_toArray, bcells_length, bcells_length, hfl, padS_length b (by have := hib.1; omega)]; omega) hone
  have hd3 : IsDisk (w2.drew.setCells bl (n * 64) (bcells (padS b))) bd bl { D with secs := D.secs.set n (padS b) } := by
    refine ⟨hd2.apart, by simpa using hd2.pos, by simpa using hd2.most, secs_set hd2.secs n b (by have := hib.1; omega), ?_, ?_⟩
    · have := hs2.heap (k := bd) hd2.cells hap
      simpa using this
    · rw [hs1, hlen64, flat_set hd2.secs n h1 (padS b), bcells_append, bcells_append]
      simp [bcells]
  have hT3 : Touch (fun k => k = bd ∨ k = bl) w (w2.drew.setCells bl (n * 64) (bcells (padS b))) := hT2.drew.andThen hs2 (fun j hj => .inl (.inr hj))
  revert hd3 hT3
  generalize w2.drew.setCells bl (n * 64) (bcells (padS b)) = W3
  intro hd3 hT3
  clear hkeep hs1 hs2 hr ht f0 f1 f2 f3 hg2 hu hi64 hlen64 hone hfl hd2 hT2 hWg
  obtain ⟨f0, f1, f2, f3⟩ := hd3.field
  have hfr : ∀ i, W3.frozen? ⟨bd, i, none⟩ = false := fun i => by simp [World.frozen?, hd3.cells]
  have H3 := Lib.hid hd3
  clear hd3
  go_wp2_with fail
  go_ret
  have hd3 := H3.out
  refine ⟨rfl, hT3.setCell _ _ (.inl (.inl rfl)), ⟨hd3.apart, hd3.pos, hd3.most, hd3.secs, ?_, ?_⟩⟩
  · rw [heap_setCell_same _ _ _ _ _ _ hd3.cells]
    simp [hB]
  · rw [Below.heap_setCell _ _ _ _ (Ne.symm hd3.apart)]; exact hd3.row

set_option maxRecDepth 100000 in
set_option maxHeartbeats 2000000 in
theorem write_ok_pos (bd bl : Nat) (D : Dsk) (n : Nat) (a : Option Addr) (m c : Nat) (b : List UInt8) (w : World) (h : IsDisk w bd bl D) (h1 : n < D.secs.length) (h2 : m ≤ 64) (hib : IsB w a m c b) (hB : D.blown = false) (hl : 0 < D.left) (hl2 : D.left ≤ 9223372036854775807) (hw1 : 0 ≤ D.writes) (hw2 : D.writes < 4611686018427387904) :
    Calls Tryz.prog 12 #[.pointer (some ⟨bd, 0, none⟩), .int .i64 n, .slice a m c] w fun e w' => e = .returned (.int .i64 0) ∧ Touch (fun k => k = bd ∨ k = bl) w w' ∧ IsDisk w' bd bl { D with secs := D.secs.set n (padS b), left := D.left - 1, writes := D.writes + 1 } := by
  have HV : Hid (thereI D n m = 0) := Lib.hid (if_neg (by omega))
  have hbel := wW_below w bd a m c
  have hw := h.touch (Touch.of_below (S := fun _ => False) hbel) id id
  have hcb := (wW_cells w bd a m c).2
  have hcf := (wW_cells w bd a m c).1
  have hibW := hib.below hbel
  have hlt := h.lt
  obtain ⟨W, hW⟩ : ∃ W, W = wW w bd a m c := ⟨_, rfl⟩
  rw [← hW] at hbel hw hcb hcf hibW
  have HW := Lib.hid hW
  clear hW
  obtain ⟨f0, f1, f2, f3⟩ := hw.field
  rw [hB] at f2
  have hd0 : (D.left == 0) = false := by rw [beq_eq_false_iff_ne]; omega
  have hd1 : decide (0 < D.left) = true := by simp; omega
  have hfr : ∀ i, W.frozen? ⟨bd, i, none⟩ = false := fun i => by simp [World.frozen?, hw.cells]
  have hv : IsDisk (W.setCell ⟨bd, 1, none⟩ (.int .i64 (D.left - 1))) bd bl { D with left := D.left - 1 } := by
    refine ⟨hw.apart, hw.pos, hw.most, hw.secs, ?_, ?_⟩
    · rw [heap_setCell_same _ _ _ _ _ _ hw.cells]; simp
    · rw [Below.heap_setCell _ _ _ _ (Ne.symm hw.apart)]; exact hw.row
  have hsame : (W.setCell ⟨bd, 1, none⟩ (.int .i64 (D.left - 1))).heap.size = W.heap.size := by simp
  have htV : Touch (fun k => k = bd) W (W.setCell ⟨bd, 1, none⟩ (.int .i64 (D.left - 1))) := (Touch.refl _ W).setCell _ _ (.inl rfl)
  have HS := Lib.hid hsame
  have HVd := Lib.hid hv
  have HtV := Lib.hid htV
  have H := Lib.hid h
  clear h hsame hv htV
  go_enter Tryz.func12, Tryz.ntmps12
  go_wp2_with fail
  rw [show (w.alloc (.cells #[.slice a m c] 24)).alloc (.cells #[.func (Fn.func 24) #[.pointer (some ⟨bd, 0, none⟩)] #[]] 66) = W from HW.out.symm]
  refine (there_w bd bl D n a m c _ _ W hw hcf hcb).mono ?_; rintro e w' ⟨rfl, rfl⟩
  rw [HV.out]
  go_wp2_with (refine wpList_alloc_any rfl 68 rfl _ zeroSec _ zeroSec_cells ?_)
  go_frame
  have hcbV := htV_cell HtV.out hcb (by omega)
  have hTV : Touch (fun k => k = bd ∨ k = bl) w (W.setCell ⟨bd, 1, none⟩ (.int .i64 (D.left - 1))) := (Touch.of_below hbel).andThen HtV.out (fun j hj => .inl (.inl hj))
  have hdv := HVd.out
  have hsz := HS.out
  have hszW : w.heap.size ≤ W.heap.size := hbel.size
  have hibV := hibW.touch HtV.out (hw.apartB hibW)
  revert hcbV hTV hdv hsz hibV
  clear HVd HS HtV f0 f1 f2 f3 hfr hcb hcf hibW hw HW
  generalize W.setCell ⟨bd, 1, none⟩ (.int .i64 (D.left - 1)) = V
  intro hcbV hTV hdv hsz hibV
  have hszV : w.heap.size ≤ V.heap.size := by omega
  clear hsz
  have hblk : (V.alloc (.cells z64.toArray 68)).drew.heap[V.heap.size]? = some (.cells z64.toArray 68 (0, 0)) := heap_new V _
  have hibA : IsB (V.alloc (.cells z64.toArray 68)).drew a m c b := hibV.below (((Below.refl _ _).alloc (Nat.le_refl _) _).drew)
  have hcbA := cell_alloc hcbV (.cells z64.toArray 68)
  have hmb := hib.1
  have hlen : Hid ((bcells b).length = Nat.min m 64 * 1) := Lib.hid (by rw [bcells_length, ← hmb, Nat.mul_one]; exact (Nat.min_eq_left h2).symm)
  have hfit : 0 + (bcells b).length ≤ z64.toArray.size := by rw [bcells_length, ← hmb, List.size_toArray, z64_length]; omega
  clear hmb
  go_region_law (first
    | (refine step_copy_any rowU8 rfl (.tmp 48) (.tmp 49) 24 (by rfl) (some ⟨V.heap.size, 0, none⟩) a 64 64 m c (by simp [Act.eval]) (by simp [Act.eval]) V.heap.size 0 z64.toArray 68 hblk (bcells b) hlen.out (fun _ => rfl) hibA.at hfit (bcells_one _) ?_; intro w2 hg2 ht2)
    | fail)
  have epad : (z64.toArray.toList.take 0 ++ bcells b ++ z64.toArray.toList.drop (0 + (bcells b).length)).toArray = (bcells (padS b)).toArray := by
    rw [bcells_length]
    exact pad_cells b (by have := hib.1; omega)
  rw [epad] at hg2
  have hltW := hdv.lt
  have hd2 : IsDisk w2 bd bl { D with left := D.left - 1 } := ((hdv.touch (Touch.of_below (S := fun _ => False) (((Below.refl _ _).alloc (Nat.le_refl _) (.cells z64.toArray 68)).drew)) id id).touch ht2 (by omega) (by omega))
  have hT2 : Touch (fun k => k = bd ∨ k = bl) w w2 := ((hTV.alloc (.cells z64.toArray 68)).drew).andThen ht2 (fun j hj => .inr (by omega))
  have hWg : V.heap.size < w2.heap.size := lt_of_heap hg2
  clear epad hibA hblk hcbA hfit hlen ht2
  obtain ⟨f0, f1, f2, f3⟩ := hd2.field
  go_wp2_with fail
  have hu := Tryz.underlying68
  have hi64 : (Tryz.prog.info? 68).map (·.size) = some (bcells (padS b)).length := by rw [bcells_length, padS_length b (by have := hib.1; omega)]; exact sizeSec
  have hlen64 : (bcells (padS b)).length = 64 := by rw [bcells_length, padS_length b (by have := hib.1; omega)]
  have hone := bcells_one (padS b)
  have hr : w2.rangeAt V.heap.size 0 (bcells (padS b)) := rangeAt_row hg2
  have hfl : D.secs.flatten.length = D.secs.length * 64 := flat_length hd2.secs
  have ht : w2.there bl (n * 64) 64 := there_row hd2.row _ _ (by rw [List.size_toArray, bcells_length, hfl]; omega)
  have hap : bd ≠ bl := hd2.apart
  have hkeep : (w2.drew.setCells bl (n * 64) (bcells (padS b))).cell? ⟨bd, 0, none⟩ = some (.slice (some ⟨bl, 0, none⟩) D.secs.length D.secs.length) ∧ (w2.drew.setCells bl (n * 64) (bcells (padS b))).rangeAt V.heap.size 0 (bcells (padS b)) ∧ (w2.drew.setCells bl (n * 64) (bcells (padS b))).there bl (n * 64) 64 := by
    refine ⟨?_, World.rangeAt_setCells_apart (w := w2.drew) hr _ _ _ (by omega), World.there_setCells (w := w2.drew) ht _ _ _⟩
    rw [World.cell?_setCells_out _ _ _ _ _ (fun h => absurd h hap)]
    exact f0
  go_region_held3 (fun w' => w'.cell? ⟨bd, 0, none⟩ = some (.slice (some ⟨bl, 0, none⟩) D.secs.length D.secs.length) ∧ w'.rangeAt V.heap.size 0 (bcells (padS b)) ∧ w'.there bl (n * 64) 64) (first | go_keep_ranges | exact hkeep) (fail)
  obtain ⟨hs1, hs2⟩ := setCells_heap Tryz.prog w2.drew bl (n * 64) (bcells (padS b)) (bcells D.secs.flatten).toArray 68 hd2.row (by rw [List.size_toArray, bcells_length, bcells_length, hfl, padS_length b (by have := hib.1; omega)]; omega) hone
  have hd3 : IsDisk (w2.drew.setCells bl (n * 64) (bcells (padS b))) bd bl { D with secs := D.secs.set n (padS b), left := D.left - 1 } := by
    refine ⟨hd2.apart, by simpa using hd2.pos, by simpa using hd2.most, secs_set hd2.secs n b (by have := hib.1; omega), ?_, ?_⟩
    · have := hs2.heap (k := bd) hd2.cells hap
      simpa using this
    · rw [hs1, hlen64, flat_set hd2.secs n h1 (padS b), bcells_append, bcells_append]
      simp [bcells]
  have hT3 : Touch (fun k => k = bd ∨ k = bl) w (w2.drew.setCells bl (n * 64) (bcells (padS b))) := hT2.drew.andThen hs2 (fun j hj => .inl (.inr hj))
  revert hd3 hT3
  generalize w2.drew.setCells bl (n * 64) (bcells (padS b)) = W3
  intro hd3 hT3
  clear hkeep hs1 hs2 hr ht f0 f1 f2 f3 hg2 hu hi64 hlen64 hone hfl hd2 hT2 hWg
  obtain ⟨f0, f1, f2, f3⟩ := hd3.field
  have hfr : ∀ i, W3.frozen? ⟨bd, i, none⟩ = false := fun i => by simp [World.frozen?, hd3.cells]
  have H3 := Lib.hid hd3
  clear hd3
  go_wp2_with fail
  go_ret
  have hd3 := H3.out
  refine ⟨rfl, hT3.setCell _ _ (.inl (.inl rfl)), ⟨hd3.apart, hd3.pos, hd3.most, hd3.secs, ?_, ?_⟩⟩
  · rw [heap_setCell_same _ _ _ _ _ _ hd3.cells]
    simp [hB]
  · rw [Below.heap_setCell _ _ _ _ (Ne.symm hd3.apart)]; exact hd3.row

end Go.Proofs.YthenakdfdpdknaaGreatDoor

/- disks: Write for every input, and Copy; conditions: those typed. -/
namespace Go.Proofs.YthenakdfdpdknaaGreatDoor
open Go.RowKit
set_option linter.unusedVariables false

/-- bounds that keep the counters from wrapping. -/
def Dsk.ok (D : Dsk) : Prop := 0 ≤ D.writes ∧ D.writes < 4611686018427387904 ∧ D.left ≤ 9223372036854775807

theorem write_any (bd bl : Nat) (D : Dsk) (n : Int) (a : Option Addr) (m c : Nat) (b : List UInt8) (w : World) (h : IsDisk w bd bl D) (hib : IsB w a m c b) (hok : D.ok) :
    Calls Tryz.prog 12 #[.pointer (some ⟨bd, 0, none⟩), .int .i64 n, .slice a m c] w fun e w' => e = .returned (.int .i64 (D.write n b).1) ∧ Touch (fun k => k = bd ∨ k = bl) w w' ∧ IsDisk w' bd bl (D.write n b).2 := by
  have hm := hib.1
  by_cases h1 : n < 0 ∨ (D.secs.length : Int) ≤ n ∨ 64 < b.length
  · have e : D.write n b = (1, D) := if_pos h1
    rw [e]
    refine (write_bad bd bl D n a m c w h (by omega)).mono ?_
    rintro e w' ⟨he, hb⟩
    exact ⟨he, Touch.of_below hb, h.touch (Touch.of_below (S := fun _ => False) hb) id id⟩
  by_cases h2 : D.blown = true ∨ D.left = 0
  · have e : D.write n b = (8, { D with blown := true }) := by unfold Dsk.write; rw [if_neg h1, if_pos h2]
    rw [e]
    refine (write_blown bd bl D n a m c w h (by omega) (by omega) (by omega) h2).mono ?_
    rintro e w' ⟨he, ht, hd⟩
    exact ⟨he, ht.weaken (fun k _ hk => .inl hk), hd⟩
  have e : D.write n b = (0, { D with secs := D.secs.set n.toNat (padS b), left := if 0 < D.left then D.left - 1 else D.left, writes := D.writes + 1 }) := by unfold Dsk.write; rw [if_neg h1, if_neg h2]
  have hB : D.blown = false := by
    cases hb : D.blown with
    | false => rfl
    | true => exact absurd (.inl hb) h2
  rw [e]
  obtain ⟨k, rfl⟩ := Int.eq_ofNat_of_zero_le (show 0 ≤ n by omega)
  by_cases h3 : 0 < D.left
  · rw [if_pos h3]
    exact write_ok_pos bd bl D k a m c b w h (by omega) (by omega) hib hB h3 hok.2.2 hok.1 hok.2.1
  · rw [if_neg h3]
    exact write_ok_neg bd bl D k a m c b w h (by omega) (by omega) hib hB (by omega) hok.1 hok.2.1

theorem Dsk.write_secs_length (D : Dsk) (n : Int) (b : List UInt8) : (D.write n b).2.secs.length = D.secs.length := by
  unfold Dsk.write
  split
  · rfl
  · split
    · rfl
    · simp

/-! ### Copy -/
def CopyPost (D : Dsk) (w : World) (e : Ending) (w' : World) : Prop :=
  ∃ cd cl, e = .returned (.tuple #[.pointer (some ⟨cd, 0, none⟩), .int .i64 0]) ∧ Below w.heap.size w w' ∧ w.heap.size ≤ cd ∧ w.heap.size ≤ cl ∧ IsDisk w' cd cl ⟨D.secs, -1, false, 0⟩
set_option maxHeartbeats 2000000 in
theorem copy_disk (bd bl : Nat) (D : Dsk) (w : World) (h : IsDisk w bd bl D) :
    Calls Tryz.prog 14 #[.pointer (some ⟨bd, 0, none⟩)] w (CopyPost D w) := by
  obtain ⟨f0, f1, f2, f3⟩ := h.field
  have hp := h.pos
  have hne : ((D.secs.length : Int) == 0) = false := by rw [beq_eq_false_iff_ne]; omega
  have hlt := h.lt
  go_enter Tryz.func14, Tryz.ntmps14
  go_wp2_with fail
  refine (new_good D.secs.length w h.pos h.most).mono ?_; rintro e w1 ⟨cd, cl, rfl, hb1, h1, h2, hc1⟩
  have hd1 := h.touch (Touch.of_below (S := fun _ => False) hb1) id id
  clear f0 f1 f2 f3
  obtain ⟨f0, f1, f2, f3⟩ := hd1.field
  obtain ⟨c0, c1, c2, c3⟩ := hc1.field
  rw [show (Dsk.mk (List.replicate D.secs.length zsec) (-1) false 0).secs.length = D.secs.length from List.length_replicate] at c0
  go_wp2_with fail
  have hfl : D.secs.flatten.length = D.secs.length * 64 := flat_length h.secs
  have hfz : (List.replicate D.secs.length zsec).flatten.length = D.secs.length * 64 := by
    have := flat_length hc1.secs
    rwa [show (Dsk.mk (List.replicate D.secs.length zsec) (-1) false 0).secs.length = D.secs.length from List.length_replicate] at this
  have hln : Hid ((bcells D.secs.flatten).length = Nat.min D.secs.length D.secs.length * 64) := Lib.hid (by rw [bcells_length, hfl]; show _ = min D.secs.length D.secs.length * 64; rw [Nat.min_self])
  have hat : At w1.drew (some ⟨bl, 0, none⟩) (bcells D.secs.flatten) := At.of_cells (w := w1.drew) fun j hj => by
    rw [Nat.zero_add]
    show w1.cell? _ = _
    rw [cell_of_block hd1.row, List.getElem?_toArray, List.getElem?_eq_getElem hj]
  have hfit : 0 + (bcells D.secs.flatten).length ≤ (bcells (List.replicate D.secs.length zsec).flatten).toArray.size := by rw [List.size_toArray, bcells_length, bcells_length, hfl, hfz]; omega
  have hcr : w1.drew.heap[cl]? = some (.cells (bcells (List.replicate D.secs.length zsec).flatten).toArray 68 (0, 0)) := hc1.row
  go_region_law (first
    | (refine step_copy_any rowSec rfl (.tmp 28) (.tmp 32) 60 (by rfl) (some ⟨cl, 0, none⟩) (some ⟨bl, 0, none⟩) D.secs.length D.secs.length D.secs.length D.secs.length (by simp [Act.eval]) (by simp [Act.eval]) cl 0 _ 68 hcr (bcells D.secs.flatten) hln.out (fun _ => rfl) hat hfit (bcells_one _) ?_; intro w2 hg2 ht2)
    | fail)
  all_goals
    have er : (List.take 0 (bcells (List.replicate D.secs.length zsec).flatten) ++ bcells D.secs.flatten ++ List.drop (0 + (bcells D.secs.flatten).length) (bcells (List.replicate D.secs.length zsec).flatten)).toArray = (bcells D.secs.flatten).toArray := by
      rw [List.take_zero, List.nil_append, List.drop_eq_nil_of_le (by rw [bcells_length, bcells_length, hfl, hfz]; omega), List.append_nil]
    rw [er] at hg2
    have hb2 : Below w.heap.size w w2 := hb1.trans (((Touch.refl _ w1).drew.trans ht2).below hb1.size (fun k hk => by omega))
    have hcd : IsDisk w2 cd cl ⟨D.secs, -1, false, 0⟩ := ⟨hc1.apart, h.pos, h.most, h.secs, by
      have := ht2.heap (k := cd) hc1.cells hc1.apart
      rw [show (Dsk.mk (List.replicate D.secs.length zsec) (-1) false 0).secs.length = D.secs.length from List.length_replicate] at this
      exact this, hg2⟩
    clear er hfit hcr hln hat hfl hfz hg2 ht2 f0 f1 f2 f3 c0 c1 c2 c3 hd1 hc1
    go_wp2_with fail
    go_ret2
    exact ⟨cd, cl, rfl, hb2, h1, h2, hcd⟩

end Go.Proofs.YthenakdfdpdknaaGreatDoor

/- The document's disk (salesroomref03): what its functions do in memory; conditions: those typed. -/
namespace Go.Proofs.YthenakdfdpdknaaGreatDoor
open Go.RowKit
set_option linter.unusedVariables false
set_option linter.unusedSimpArgs false
set_option maxRecDepth 100000

def sl64 (g : Nat) : Value := .slice (some ⟨g, 0, none⟩) 64 64
theorem sl64_one (l : List Nat) : ∀ u ∈ l.map sl64, u.oneCell' = true := fun u hu => by
  obtain ⟨g, _, rfl⟩ := List.mem_map.1 hu; rfl

/-- The document's disk in memory, its blocks from B on. -/
structure IsRef (w : World) (B rd rl rc : Nat) (R : Dsk) : Prop where
  le : B ≤ rd
  pos : 1 ≤ R.secs.length
  most : R.secs.length ≤ 1024
  secs : Secs R.secs
  cells : w.heap[rd]? = some (.cells #[.slice (some ⟨rl, 0, none⟩) R.secs.length rc, .int .i64 R.left, .bool R.blown, .int .i64 R.writes] 65 (0, 0))
  row : ∃ gs : List Nat, gs.length = R.secs.length ∧ w.ownsRow B 24 1 (.slice (some ⟨rl, 0, none⟩) R.secs.length rc) R.secs.length (gs.map sl64) ∧ (∀ i (h : i < gs.length) (h' : i < R.secs.length), RowB w gs[i] R.secs[i] ∧ B ≤ gs[i]) ∧ (∀ i j (hi : i < gs.length) (hj : j < gs.length), i ≠ j → gs[i] ≠ gs[j])

/-- No block of a document's disk is among them. -/
def NoRef (w : World) (S : Nat → Prop) : Prop := ∀ k, S k → ∀ cur t fz, w.heap[k]? = some (.cells cur t fz) → t ≠ 5 ∧ t ≠ 24 ∧ t ≠ 65
theorem IsRef.touch {S : Nat → Prop} {w w' : World} {B rd rl rc : Nat} {R : Dsk} (h : IsRef w B rd rl rc R) (ht : Touch S w w') (hs : NoRef w S) : IsRef w' B rd rl rc R := by
  obtain ⟨gs, g1, g2, g3, g4⟩ := h.row
  refine ⟨h.le, h.pos, h.most, h.secs, ht.heap h.cells (fun e => (hs rd e _ _ _ h.cells).2.2 rfl), gs, g1, owns_touch g2 ht (fun k hk e => ?_), fun i hi hi' => ⟨ht.heap (g3 i hi hi').1 (fun e => (hs _ e _ _ _ (g3 i hi hi').1).1 rfl), (g3 i hi hi').2⟩, g4⟩
  obtain ⟨cur, hc⟩ := owns_block g2 hk
  exact (hs k e _ _ _ hc).2.1 rfl
theorem IsRef.below {w w' : World} {B rd rl rc : Nat} {R : Dsk} (h : IsRef w B rd rl rc R) (hb : Below w.heap.size w w') : IsRef w' B rd rl rc R := h.touch (Touch.of_below (S := fun _ => False) hb) (fun _ h => h.elim)
theorem IsRef.field {w : World} {B rd rl rc : Nat} {R : Dsk} (h : IsRef w B rd rl rc R) :
    w.cell? ⟨rd, 0, none⟩ = some (.slice (some ⟨rl, 0, none⟩) R.secs.length rc) ∧ w.cell? ⟨rd, 1, none⟩ = some (.int .i64 R.left) ∧ w.cell? ⟨rd, 2, none⟩ = some (.bool R.blown) ∧ w.cell? ⟨rd, 3, none⟩ = some (.int .i64 R.writes) := by
  refine ⟨?_, ?_, ?_, ?_⟩ <;> rw [cell_of_block h.cells] <;> rfl

/-! ### what only reads -/
theorem rlen_any (B rd rl rc : Nat) (R : Dsk) (w : World) (h : IsRef w B rd rl rc R) :
    Calls Tryz.prog 70 #[.pointer (some ⟨rd, 0, none⟩)] w fun e w' => e = .returned (.int .i64 R.secs.length) ∧ w = w' := by
  obtain ⟨f0, f1, f2, f3⟩ := h.field
  clear h
  go_enter Tryz.func70, Tryz.ntmps70
  go_wp2
  go_ret
  exact ⟨rfl, rfl⟩


theorem IsRef.own {w : World} {B rd rl rc : Nat} {R : Dsk} (h : IsRef w B rd rl rc R) {w' : World} (ht : Touch (fun k => k = rd) w w') (R' : Dsk) (e : R'.secs = R.secs)
    (hc : w'.heap[rd]? = some (.cells #[.slice (some ⟨rl, 0, none⟩) R.secs.length rc, .int .i64 R'.left, .bool R'.blown, .int .i64 R'.writes] 65 (0, 0))) : IsRef w' B rd rl rc R' := by
  obtain ⟨S, l, b, n⟩ := R'
  obtain rfl : S = R.secs := e
  obtain ⟨gs, g1, g2, g3, g4⟩ := h.row
  refine ⟨h.le, h.pos, h.most, h.secs, hc, gs, g1, owns_touch g2 ht (fun k hk e => ?_), fun i hi hi' => ⟨ht.heap (g3 i hi hi').1 (fun e => ?_), (g3 i hi hi').2⟩, g4⟩
  · obtain ⟨cur, hc⟩ := owns_block g2 hk
    rw [e, h.cells] at hc
    have := (Obj.cells.inj (Option.some.inj hc)).2.1
    revert this; decide
  · have hc := (g3 i hi hi').1
    unfold RowB at hc
    rw [e, h.cells] at hc
    have := (Obj.cells.inj (Option.some.inj hc)).2.1
    revert this; decide

/-! ### Fuse -/
theorem rfuse_any (B rd rl rc : Nat) (R : Dsk) (n : Int) (w : World) (h : IsRef w B rd rl rc R) :
    Calls Tryz.prog 11 #[.pointer (some ⟨rd, 0, none⟩), .int .i64 n] w fun e w' => e = .returned (.int .i64 (if R.blown then 8 else 0)) ∧ Touch (fun k => k = rd) w w' ∧ IsRef w' B rd rl rc (if R.blown then R else { R with left := max (-1) n }) := by
  obtain ⟨f0, f1, f2, f3⟩ := h.field
  have hfr : ∀ i, w.frozen? ⟨rd, i, none⟩ = false := fun i => by simp [World.frozen?, h.cells]
  have H := Lib.hid h
  clear h
  cases hB : R.blown
  · rw [hB] at f2
    go_enter Tryz.func11, Tryz.ntmps11
    go_wp2
    all_goals go_ret
    all_goals refine ⟨rfl, (Touch.refl _ _).setCell _ _ (.inl rfl), H.out.own ((Touch.refl _ _).setCell _ _ (.inl rfl)) _ rfl ?_⟩
    · rw [heap_setCell_same _ _ _ _ _ _ H.out.cells, show max (-1) n = n by omega]; simp [hB]
    · rw [heap_setCell_same _ _ _ _ _ _ H.out.cells, show max (-1) n = -1 by omega]; simp [hB]
  · rw [hB] at f2
    go_enter Tryz.func11, Tryz.ntmps11
    go_wp2
    go_ret
    exact ⟨rfl, Touch.refl _ _, H.out⟩

end Go.Proofs.YthenakdfdpdknaaGreatDoor

/- The document's disk: Read; conditions: those typed. -/
namespace Go.Proofs.YthenakdfdpdknaaGreatDoor
open Go.RowKit
set_option linter.unusedVariables false
set_option linter.unusedSimpArgs false
set_option maxRecDepth 100000

theorem IsRef.sec {w : World} {B rd rl rc : Nat} {R : Dsk} (h : IsRef w B rd rl rc R) (n : Nat) (hn : n < R.secs.length) : ∃ g, w.cell? ⟨rl, n, none⟩ = some (.slice (some ⟨g, 0, none⟩) 64 64) ∧ RowB w g R.secs[n] := by
  obtain ⟨gs, g1, g2, g3, g4⟩ := h.row
  refine ⟨gs[n]'(by omega), cells_of_owns g2 n _ ?_, (g3 n (by omega) hn).1⟩
  rw [List.getElem?_map, List.getElem?_eq_getElem (by omega)]; rfl

theorem rread_bad (B rd rl rc : Nat) (R : Dsk) (n : Int) (w : World) (h : IsRef w B rd rl rc R) (hn : n < 0 ∨ R.secs.length ≤ n) :
    Calls Tryz.prog 95 #[.pointer (some ⟨rd, 0, none⟩), .int .i64 n] w fun e w' => e = .returned (.tuple #[.slice none 0 0, .int .i64 1]) ∧ w = w' := by
  obtain ⟨f0, f1, f2, f3⟩ := h.field
  clear h
  rcases hn with hn | hn
  · have h0 : decide (n < (0 : Int)) = true := by simpa using hn
    go_enter Tryz.func95, Tryz.ntmps95
    go_wp2
    go_ret2
    exact ⟨rfl, rfl⟩
  · have h0 : decide (n < (0 : Int)) = false := by simp; omega
    have h1 : decide ((R.secs.length : Int) ≤ n) = true := by simpa using hn
    go_enter Tryz.func95, Tryz.ntmps95
    go_wp2
    go_ret2
    exact ⟨rfl, rfl⟩

theorem rread_good (B rd rl rc : Nat) (R : Dsk) (n : Nat) (w : World) (h : IsRef w B rd rl rc R) (hn : n < R.secs.length) :
    Calls Tryz.prog 95 #[.pointer (some ⟨rd, 0, none⟩), .int .i64 n] w fun e w' => ∃ a c, e = .returned (.tuple #[.slice a 64 c, .int .i64 0]) ∧ Below w.heap.size w w' ∧ IsB w' a 64 c R.secs[n] := by
  obtain ⟨f0, f1, f2, f3⟩ := h.field
  obtain ⟨g, c1, hr⟩ := h.sec n hn
  have h64 := h.secs _ (List.getElem_mem hn)
  have hmost := h.most
  have hat : At w (some ⟨g, 0, none⟩) (bcells R.secs[n]) := At.of_cells fun j hj => by
    rw [Nat.zero_add, cell_of_block hr, List.getElem?_toArray, List.getElem?_eq_getElem hj]
  have h0 : decide ((n : Int) < (0 : Int)) = false := by simp
  have h1 : decide ((R.secs.length : Int) ≤ (n : Int)) = false := by simp; omega
  have HL : Hid ((bcells R.secs[n]).length = 64 * 1) := Lib.hid (by rw [bcells_length, h64])
  have HO := Lib.hid (bcells_one R.secs[n])
  obtain ⟨cs, hcs⟩ : ∃ cs, cs = bcells R.secs[n] := ⟨_, rfl⟩
  rw [← hcs] at hat HL HO
  have HC := Lib.hid hcs
  have H64 := Lib.hid h64
  clear hr h64 h hcs
  go_enter Tryz.func95, Tryz.ntmps95
  go_wp2_with (first
    | (at_builtin; refine wpList_append_any rowU8 rfl (.const (.slice none 0 0)) (.tmp 23) rfl w.heap.size (.slice none 0 0) 0 [] rfl (World.ownsRow_nil _ _ _ _) (some ⟨g, 0, none⟩) 64 64 cs rfl HL.out hat HO.out (by decide) (by decide) (by simp) ?_; intro b2 c2 w2 hown2 hg2 hat2; simp only [Nat.zero_add, List.nil_append] at hown2 hat2)
    | fail)
  go_ret2
  rw [HC.out] at hown2
  have hb2 : Below w.heap.size w w2 := (Below.refl _ _).grown hg2 (Nat.le_refl _) (by simp [Value.ownBlock])
  exact ⟨b2, c2, rfl, hb2, isB_of_owns hown2 H64.out.symm⟩

def Dsk.read (R : Dsk) (n : Int) : Int × List UInt8 := if n < 0 ∨ (R.secs.length : Int) ≤ n then (1, []) else (0, R.secs.getD n.toNat [])
theorem rread_any (B rd rl rc : Nat) (R : Dsk) (n : Int) (w : World) (h : IsRef w B rd rl rc R) :
    Calls Tryz.prog 95 #[.pointer (some ⟨rd, 0, none⟩), .int .i64 n] w fun e w' => ∃ a m c, e = .returned (.tuple #[.slice a m c, .int .i64 (R.read n).1]) ∧ Below w.heap.size w w' ∧ IsB w' a m c (R.read n).2 := by
  by_cases hn : n < 0 ∨ (R.secs.length : Int) ≤ n
  · have e : R.read n = (1, []) := if_pos hn
    rw [e]
    exact (rread_bad B rd rl rc R n w h hn).mono fun e w' h => ⟨none, 0, 0, h.1, h.2 ▸ Below.refl _ _, isB_nil _⟩
  · obtain ⟨k, rfl⟩ := Int.eq_ofNat_of_zero_le (show 0 ≤ n by omega)
    have hk : k < R.secs.length := by omega
    have e : R.read k = (0, R.secs[k]) := by unfold Dsk.read; rw [if_neg hn]; simp [hk]
    rw [e]
    exact (rread_good B rd rl rc R k w h hk).mono fun e w' h => by obtain ⟨a, c, h1, h2, h3⟩ := h; exact ⟨a, 64, c, h1, h2, h3⟩

/-- The disk's Read, with the block of what it answers. -/
theorem dread_any (bd bl : Nat) (D : Dsk) (n : Int) (w : World) (h : IsDisk w bd bl D) :
    Calls Tryz.prog 91 #[.pointer (some ⟨bd, 0, none⟩), .int .i64 n] w fun e w' => ∃ a m c, e = .returned (.tuple #[.slice a m c, .int .i64 (D.read n).1]) ∧ Below w.heap.size w w' ∧ IsB w' a m c (D.read n).2 ∧
      ((a = none ∧ m = 0 ∧ c = 0) ∨ ∃ g, a = some ⟨g, 0, none⟩ ∧ m = 64 ∧ c = 64 ∧ w.heap.size ≤ g ∧ ∃ l, l.length = 64 ∧ RowB w' g l) := by
  by_cases hn : n < 0 ∨ (D.secs.length : Int) ≤ n
  · have e : D.read n = (1, []) := if_pos hn
    rw [e]
    exact (read_bad bd bl D n w h hn).mono fun e w' h => ⟨none, 0, 0, h.1, h.2 ▸ Below.refl _ _, isB_nil _, .inl ⟨rfl, rfl, rfl⟩⟩
  · obtain ⟨k, rfl⟩ := Int.eq_ofNat_of_zero_le (show 0 ≤ n by omega)
    have hk : k < D.secs.length := by omega
    have e : D.read k = (0, D.secs[k]) := by unfold Dsk.read; rw [if_neg hn]; simp [hk]
    have h64 := h.secs _ (List.getElem_mem hk)
    rw [e]
    exact (read_good bd bl D k w h hk).mono fun e w' h => by
      obtain ⟨g, h1, h2, h3, h4⟩ := h
      have := h4.isB (by rw [h64]; decide)
      rw [h64] at this
      exact ⟨some ⟨g, 0, none⟩, 64, 64, h1, h2, this, .inr ⟨g, rfl, rfl, rfl, h3, _, h64, h4⟩⟩

end Go.Proofs.YthenakdfdpdknaaGreatDoor

/- The document's disk: Write; conditions: those typed. -/
namespace Go.Proofs.YthenakdfdpdknaaGreatDoor
open Go.RowKit
set_option linter.unusedVariables false
set_option linter.unusedSimpArgs false
set_option maxRecDepth 100000

theorem IsRef.lt {w : World} {B rd rl rc : Nat} {R : Dsk} (h : IsRef w B rd rl rc R) : rd < w.heap.size ∧ rl < w.heap.size ∧ rd ≠ rl ∧ B ≤ rl := by
  obtain ⟨gs, g1, g2, g3, g4⟩ := h.row
  refine ⟨lt_of_heap h.cells, (g2.lt rl rfl).2, fun e => ?_, (g2.lt rl rfl).1⟩
  obtain ⟨cur, hc⟩ := owns_block g2 (k := rl) rfl
  rw [← e, h.cells] at hc
  have := (Obj.cells.inj (Option.some.inj hc)).2.1
  revert this; decide
theorem IsRef.sec_lt {w : World} {B rd rl rc : Nat} {R : Dsk} (h : IsRef w B rd rl rc R) (n : Nat) (hn : n < R.secs.length) (g : Nat) (hc : w.cell? ⟨rl, n, none⟩ = some (sl64 g)) : g < w.heap.size := by
  obtain ⟨g', h1, h2⟩ := h.sec n hn
  rw [hc] at h1
  unfold sl64 at h1
  cases h1
  exact lt_of_heap h2

/-- A sector is another one. -/
theorem IsRef.setSec {w : World} {B rd rl rc : Nat} {R : Dsk} (h : IsRef w B rd rl rc R) (n : Nat) (hn : n < R.secs.length) (g : Nat) (x : List UInt8) (hx : x.length = 64) (hg : RowB w g x) (hB : B ≤ g)
    (hf : ∀ i g', i < R.secs.length → w.cell? ⟨rl, i, none⟩ = some (sl64 g') → g' ≠ g) :
    Touch (fun k => k = rl) w (w.setCell ⟨rl, n, none⟩ (sl64 g)) ∧ IsRef (w.setCell ⟨rl, n, none⟩ (sl64 g)) B rd rl rc { R with secs := R.secs.set n x } := by
  have ht : Touch (fun k => k = rl) w (w.setCell ⟨rl, n, none⟩ (sl64 g)) := (Touch.refl _ _).setCell _ _ (.inl rfl)
  obtain ⟨_, _, hne, _⟩ := h.lt
  obtain ⟨gs, g1, g2, g3, g4⟩ := h.row
  have hcell : ∀ i (hi : i < gs.length), w.cell? ⟨rl, i, none⟩ = some (sl64 gs[i]) := fun i hi => cells_of_owns g2 i _ (by rw [List.getElem?_map, List.getElem?_eq_getElem hi]; rfl)
  have hfg : ∀ i (hi : i < gs.length), gs[i] ≠ g := fun i hi => hf i _ (by omega) (hcell i hi)
  have hnr : ∀ {k : Nat} {y : List UInt8}, RowB w k y → k ≠ rl := fun hk e => by
    obtain ⟨cur, hc⟩ := owns_block g2 (k := rl) rfl
    unfold RowB at hk
    rw [e, hc] at hk
    have := (Obj.cells.inj (Option.some.inj hk)).2.1
    revert this; decide
  refine ⟨ht, h.le, by simpa using h.pos, by simpa using h.most, fun s hs => ?_, ?_, gs.set n g, by simpa using g1, ?_, fun i hi hi' => ?_, fun i j hi hj hij => ?_⟩
  · rcases List.mem_or_eq_of_mem_set hs with hs | hs
    · exact h.secs s hs
    · rw [hs]; exact hx
  · have := ht.heap h.cells hne
    simpa using this
  · rw [List.map_set]
    rcases g2.2 with ⟨e, _⟩ | ⟨gr, cap, cur, e, hBr, hgr, hnc, hcm, hcs, htk⟩
    · cases e
    · cases e
      have hsz : n < cur.size := by rw [hcs]; omega
      refine ⟨by simpa using g1, .inr ⟨rl, rc, cur.set n (sl64 g) hsz, by simp, hBr, ?_, by simpa using hnc, hcm, by simpa using hcs, ?_⟩⟩
      · rw [heap_setCell_same _ _ _ _ _ _ hgr]
        simp [Array.setIfInBounds, hsz]
      · simp only [List.length_set]
        rw [← htk]
        simp [List.take_set]
  · have hi2 : i < gs.length := by simpa using hi
    have hi3 : i < R.secs.length := by simpa using hi'
    by_cases hin : n = i
    · subst hin
      simp only [List.getElem_set_self]
      exact ⟨ht.heap hg (hnr hg), hB⟩
    · simp only [List.getElem_set_ne hin]
      exact ⟨ht.heap (g3 i hi2 hi3).1 (hnr (g3 i hi2 hi3).1), (g3 i hi2 hi3).2⟩
  · have hi2 : i < gs.length := by simpa using hi
    have hj2 : j < gs.length := by simpa using hj
    by_cases hin : n = i
    · subst hin
      rw [List.getElem_set_self, List.getElem_set_ne hij]
      exact Ne.symm (hfg j hj2)
    · rw [List.getElem_set_ne hin]
      by_cases hjn : n = j
      · subst hjn
        rw [List.getElem_set_self]
        exact hfg i hi2
      · rw [List.getElem_set_ne hjn]
        exact g4 i j hi2 hj2 hij

theorem IsRef.apartB {w : World} {B rd rl rc : Nat} {R : Dsk} (h : IsRef w B rd rl rc R) {a : Option Addr} {n c : Nat} {l : List UInt8} (hb : IsB w a n c l) : ∀ b off, a = some ⟨b, off, none⟩ → l ≠ [] → ¬ (b = rd) := by
  intro b off ha hl hbd
  subst hbd
  obtain ⟨_, _, _, ⟨h4, _⟩ | ⟨b', off', hv, _, hc⟩⟩ := hb
  · exact hl h4
  · rw [ha] at hv
    cases hv
    have h0 := hc 0 (List.length_pos_iff.2 hl)
    rw [cell_of_block h.cells] at h0
    match off, h0 with
    | 0, h0 => simp at h0
    | 1, h0 => simp at h0
    | 2, h0 => simp at h0
    | 3, h0 => simp at h0
    | k + 4, h0 => simp at h0

theorem rwrite_bad (B rd rl rc : Nat) (R : Dsk) (n : Int) (a : Option Addr) (m c : Nat) (w : World) (h : IsRef w B rd rl rc R) (hn : n < 0 ∨ (R.secs.length : Int) ≤ n ∨ 64 < m) :
    Calls Tryz.prog 13 #[.pointer (some ⟨rd, 0, none⟩), .int .i64 n, .slice a m c] w fun e w' => e = .returned (.int .i64 1) ∧ w = w' := by
  obtain ⟨f0, f1, f2, f3⟩ := h.field
  clear h
  by_cases c0 : n < 0
  · have h0 : decide (n < (0 : Int)) = true := by simpa using c0
    go_enter Tryz.func13, Tryz.ntmps13
    go_wp2
    go_ret
    exact ⟨rfl, rfl⟩
  · have h0 : decide (n < (0 : Int)) = false := by simpa using c0
    by_cases c1 : (R.secs.length : Int) ≤ n
    · have h1 : decide ((R.secs.length : Int) ≤ n) = true := by simpa using c1
      go_enter Tryz.func13, Tryz.ntmps13
      go_wp2
      go_ret
      exact ⟨rfl, rfl⟩
    · have h1 : decide ((R.secs.length : Int) ≤ n) = false := by simpa using c1
      have h2 : decide ((64 : Int) < (m : Int)) = true := by simp; omega
      go_enter Tryz.func13, Tryz.ntmps13
      go_wp2
      go_ret
      exact ⟨rfl, rfl⟩

theorem rwrite_blown (B rd rl rc : Nat) (R : Dsk) (n : Nat) (a : Option Addr) (m c : Nat) (w : World) (h : IsRef w B rd rl rc R) (hn : n < R.secs.length) (hm : m ≤ 64) (hb : R.blown = true ∨ R.left = 0) :
    Calls Tryz.prog 13 #[.pointer (some ⟨rd, 0, none⟩), .int .i64 n, .slice a m c] w fun e w' => e = .returned (.int .i64 8) ∧ Touch (fun k => k = rd) w w' ∧ IsRef w' B rd rl rc { R with blown := true } := by
  obtain ⟨f0, f1, f2, f3⟩ := h.field
  have h0 : decide ((n : Int) < (0 : Int)) = false := by simp
  have h1 : decide ((R.secs.length : Int) ≤ (n : Int)) = false := by simp; omega
  have h2 : decide ((64 : Int) < (m : Int)) = false := by simp; omega
  have hfr : ∀ i, w.frozen? ⟨rd, i, none⟩ = false := fun i => by simp [World.frozen?, h.cells]
  have H := Lib.hid h
  clear h
  cases hB : R.blown
  · have hl : R.left = 0 := by rw [hB] at hb; simpa using hb
    rw [hB] at f2
    rw [hl] at f1
    go_enter Tryz.func13, Tryz.ntmps13
    go_wp2
    go_ret
    refine ⟨rfl, (Touch.refl _ _).setCell _ _ (.inl rfl), H.out.own ((Touch.refl _ _).setCell _ _ (.inl rfl)) _ rfl ?_⟩
    rw [heap_setCell_same _ _ _ _ _ _ H.out.cells]; simp
  · rw [hB] at f2
    go_enter Tryz.func13, Tryz.ntmps13
    go_wp2
    go_ret
    refine ⟨rfl, Touch.refl _ _, ?_⟩
    have := H.out
    obtain ⟨S, l, b, nn⟩ := R
    obtain rfl : b = true := hB
    exact this

theorem rw_facts {w0 w1 w2 : World} {B rd rl rc : Nat} {R : Dsk} (h : IsRef w0 B rd rl rc R) (hb1 : Below w0.heap.size w0 w1) (G n : Nat) (hG : G = w0.heap.size) (b : List UInt8) (hb : b.length ≤ 64) (hn : n < R.secs.length)
    (hg2 : w2.heap[G]? = some (.cells (z64.toArray.toList.take 0 ++ bcells b ++ z64.toArray.toList.drop (0 + (bcells b).length)).toArray 5 (0, 0))) (ht2 : Touch (fun k => k = G) w1 w2) :
    w2.cell? ⟨rd, 0, none⟩ = some (.slice (some ⟨rl, 0, none⟩) R.secs.length rc) ∧ (∃ u, w2.cell? ⟨rl, n, none⟩ = some u) ∧ w2.frozen? ⟨rl, n, none⟩ = false ∧
      (w2.setCell ⟨rl, n, none⟩ (.slice (some ⟨G, 0, none⟩) 64 64)).cell? ⟨rd, 3, none⟩ = some (.int .i64 R.writes) ∧ (w2.setCell ⟨rl, n, none⟩ (.slice (some ⟨G, 0, none⟩) 64 64)).frozen? ⟨rd, 3, none⟩ = false ∧
      Hid (IsRef (w2.setCell ⟨rl, n, none⟩ (.slice (some ⟨G, 0, none⟩) 64 64)) B rd rl rc { R with secs := R.secs.set n (padS b) } ∧ Touch (fun k => k = rd ∨ k = rl) w0 (w2.setCell ⟨rl, n, none⟩ (.slice (some ⟨G, 0, none⟩) 64 64))) := by
  have epad : (z64.toArray.toList.take 0 ++ bcells b ++ z64.toArray.toList.drop (0 + (bcells b).length)).toArray = (bcells (padS b)).toArray := by
    rw [bcells_length]
    exact pad_cells b hb
  rw [epad] at hg2
  have hb2 : Below w0.heap.size w0 w2 := hb1.trans (ht2.below hb1.size (fun k hk e => by omega))
  have hr2 := h.below hb2
  have hlt0 := h.lt
  have hBW : B ≤ w0.heap.size := Nat.le_trans h.le (Nat.le_of_lt hlt0.1)
  obtain ⟨ht3, hr3⟩ := hr2.setSec n hn G (padS b) (padS_length b hb) hg2 (by omega) (fun i g' hi hc e => by
    have : w0.cell? ⟨rl, i, none⟩ = some (sl64 g') := (hb2.cell (p := ⟨rl, i, none⟩) hlt0.2.1).symm.trans hc
    have := h.sec_lt i hi g' this
    omega)
  obtain ⟨g2', c1, _⟩ := hr2.sec n hn
  refine ⟨hr2.field.1, ⟨_, c1⟩, ?_, hr3.field.2.2.2, book_frozen hr3.cells, Lib.hid ⟨hr3, (Touch.of_below hb2).trans (ht3.weaken (fun k _ hk => .inr hk))⟩⟩
  obtain ⟨gs, _, q2, _⟩ := hr2.row
  obtain ⟨cur, hc⟩ := owns_block q2 (k := rl) rfl
  exact book_frozen hc

set_option maxHeartbeats 2000000 in
theorem rwrite_neg (B rd rl rc : Nat) (R : Dsk) (n : Nat) (a : Option Addr) (m c : Nat) (b : List UInt8) (w : World) (h : IsRef w B rd rl rc R) (h1 : n < R.secs.length) (h2 : m ≤ 64) (hib : IsB w a m c b) (hB : R.blown = false) (hl : R.left < 0) (hw1 : 0 ≤ R.writes) (hw2 : R.writes < 4611686018427387904) :
    Calls Tryz.prog 13 #[.pointer (some ⟨rd, 0, none⟩), .int .i64 n, .slice a m c] w fun e w' => e = .returned (.int .i64 0) ∧ Touch (fun k => k = rd ∨ k = rl) w w' ∧ IsRef w' B rd rl rc { R with secs := R.secs.set n (padS b), left := R.left, writes := R.writes + 1 } := by
  obtain ⟨f0, f1, f2, f3⟩ := h.field
  obtain ⟨i0, hi, hz0, hz1, hz2⟩ := info_parts infoU8
  have k0 : decide ((n : Int) < (0 : Int)) = false := by simp
  have k1 : decide ((R.secs.length : Int) ≤ (n : Int)) = false := by simp; omega
  have k2 : decide ((64 : Int) < (m : Int)) = false := by simp; omega
  have k3 : (R.left == 0) = false := by rw [beq_eq_false_iff_ne]; omega
  have k4 : decide (0 < R.left) = false := by simp; omega
  rw [hB] at f2
  have hfr : ∀ i, w.frozen? ⟨rd, i, none⟩ = false := fun i => by simp [World.frozen?, h.cells]
  have H := Lib.hid h
  have HB := Lib.hid hib
  have hmb := hib.1
  have hbl : b.length ≤ 64 := by omega
  have hlen : Hid ((bcells b).length = Nat.min m 64 * 1) := Lib.hid (by rw [bcells_length, ← hmb, Nat.mul_one]; exact (Nat.min_eq_left h2).symm)
  have hfit : 0 + (bcells b).length ≤ z64.toArray.size := by rw [bcells_length, ← hmb, List.size_toArray, z64_length]; omega
  have HBW := HB
  have HR0 := H
  have HT0 : Hid (Touch (fun k => k = rd) w w) := Lib.hid (Touch.refl _ _)
  have HSZ : Hid (w.heap.size = w.heap.size) := Lib.hid rfl
  clear hmb h hib
  go_enter Tryz.func13, Tryz.ntmps13
  go_wp2_with (first
    | (refine wpList_make_full _ rfl _ _ 24 rfl w.heap.size 5 i0 _ 1 Tryz.underlying24 hi hz0 hz1 .i64 .i64 _ _ 64 rfl rfl rfl rfl (by rw [hz2]; decide) (by decide) (Nat.le_refl _) ?_; intro w1 hown1 hg1; have hb1 : Below w.heap.size w w1 := (Below.refl _ _).grown hg1 (Nat.le_refl _) (by simp); rw [z64_made] at hown1; have hrow := (row_of_owns hown1).1; have hat := (HBW.out.below hb1).at; rw [HSZ.out] at hrow; have HB1 := Lib.hid hb1; clear hb1 hown1 hg1)
    | (refine wpList_copy_any rowU8 rfl (.tmp 49) (.tmp 50) 24 rfl (some ⟨w.heap.size, 0, none⟩) a 64 64 m c rfl rfl w.heap.size 0 z64.toArray 5 hrow (bcells b) hlen.out (fun _ => rfl) hat hfit (bcells_one _) ?_; intro w2 hg2 ht2; obtain ⟨q0, ⟨u, q1⟩, q2, q3, q4, Q⟩ := rw_facts HR0.out HB1.out w.heap.size n HSZ.out.symm b hbl (by exact h1) hg2 ht2; (try dsimp only at q0 q3); clear hg2 ht2 hrow hat)
    | fail)
  go_ret
  obtain ⟨hr3, ht3⟩ := Q.out
  refine ⟨rfl, ((HT0.out.weaken (fun k _ hk => .inl hk)).trans ht3).setCell _ _ (.inl (.inl rfl)), hr3.own ((Touch.refl _ _).setCell _ _ (.inl rfl)) _ rfl ?_⟩
  rw [heap_setCell_same _ _ _ _ _ _ hr3.cells]
  simp [hB]

set_option maxHeartbeats 2000000 in
theorem rwrite_pos (B rd rl rc : Nat) (R : Dsk) (n : Nat) (a : Option Addr) (m c : Nat) (b : List UInt8) (w : World) (h : IsRef w B rd rl rc R) (h1 : n < R.secs.length) (h2 : m ≤ 64) (hib : IsB w a m c b) (hB : R.blown = false) (hl : 0 < R.left) (hl2 : R.left ≤ 9223372036854775807) (hw1 : 0 ≤ R.writes) (hw2 : R.writes < 4611686018427387904) :
    Calls Tryz.prog 13 #[.pointer (some ⟨rd, 0, none⟩), .int .i64 n, .slice a m c] w fun e w' => e = .returned (.int .i64 0) ∧ Touch (fun k => k = rd ∨ k = rl) w w' ∧ IsRef w' B rd rl rc { R with secs := R.secs.set n (padS b), left := R.left - 1, writes := R.writes + 1 } := by
  obtain ⟨f0, f1, f2, f3⟩ := h.field
  obtain ⟨i0, hi, hz0, hz1, hz2⟩ := info_parts infoU8
  have k0 : decide ((n : Int) < (0 : Int)) = false := by simp
  have k1 : decide ((R.secs.length : Int) ≤ (n : Int)) = false := by simp; omega
  have k2 : decide ((64 : Int) < (m : Int)) = false := by simp; omega
  have k3 : (R.left == 0) = false := by rw [beq_eq_false_iff_ne]; omega
  have k4 : decide (0 < R.left) = true := by simp; omega
  rw [hB] at f2
  have hfr : ∀ i, w.frozen? ⟨rd, i, none⟩ = false := fun i => by simp [World.frozen?, h.cells]
  have H := Lib.hid h
  have HB := Lib.hid hib
  have hmb := hib.1
  have hbl : b.length ≤ 64 := by omega
  have hlen : Hid ((bcells b).length = Nat.min m 64 * 1) := Lib.hid (by rw [bcells_length, ← hmb, Nat.mul_one]; exact (Nat.min_eq_left h2).symm)
  have hfit : 0 + (bcells b).length ≤ z64.toArray.size := by rw [bcells_length, ← hmb, List.size_toArray, z64_length]; omega
  have ht0 : Touch (fun k => k = rd) w (w.setCell ⟨rd, 1, none⟩ (.int .i64 (R.left - 1))) := (Touch.refl _ _).setCell _ _ (.inl rfl)
  have hr0 : IsRef (w.setCell ⟨rd, 1, none⟩ (.int .i64 (R.left - 1))) B rd rl rc { R with left := R.left - 1 } := H.out.own ht0 _ rfl (by
    rw [heap_setCell_same _ _ _ _ _ _ H.out.cells]; simp)
  have hsz0 : (w.setCell ⟨rd, 1, none⟩ (.int .i64 (R.left - 1))).heap.size = w.heap.size := by simp [World.setCell]
  have HBW := Lib.hid (HB.out.touch ht0 (H.out.apartB HB.out))
  have HR0 := Lib.hid hr0
  have HT0 := Lib.hid ht0
  have HSZ := Lib.hid hsz0
  clear hsz0 hr0 ht0 hmb h hib
  go_enter Tryz.func13, Tryz.ntmps13
  go_wp2_with (first
    | (refine wpList_make_full _ rfl _ _ 24 rfl (w.setCell ⟨rd, 1, none⟩ (.int .i64 (R.left - 1))).heap.size 5 i0 _ 1 Tryz.underlying24 hi hz0 hz1 .i64 .i64 _ _ 64 rfl rfl rfl rfl (by rw [hz2]; decide) (by decide) (Nat.le_refl _) ?_; intro w1 hown1 hg1; have hb1 : Below (w.setCell ⟨rd, 1, none⟩ (.int .i64 (R.left - 1))).heap.size (w.setCell ⟨rd, 1, none⟩ (.int .i64 (R.left - 1))) w1 := (Below.refl _ _).grown hg1 (Nat.le_refl _) (by simp); rw [z64_made] at hown1; have hrow := (row_of_owns hown1).1; have hat := (HBW.out.below hb1).at; rw [HSZ.out] at hrow; have HB1 := Lib.hid hb1; clear hb1 hown1 hg1)
    | (refine wpList_copy_any rowU8 rfl (.tmp 49) (.tmp 50) 24 rfl (some ⟨w.heap.size, 0, none⟩) a 64 64 m c rfl rfl w.heap.size 0 z64.toArray 5 hrow (bcells b) hlen.out (fun _ => rfl) hat hfit (bcells_one _) ?_; intro w2 hg2 ht2; obtain ⟨q0, ⟨u, q1⟩, q2, q3, q4, Q⟩ := rw_facts HR0.out HB1.out w.heap.size n HSZ.out.symm b hbl (by exact h1) hg2 ht2; (try dsimp only at q0 q3); clear hg2 ht2 hrow hat)
    | fail)
  go_ret
  obtain ⟨hr3, ht3⟩ := Q.out
  refine ⟨rfl, ((HT0.out.weaken (fun k _ hk => .inl hk)).trans ht3).setCell _ _ (.inl (.inl rfl)), hr3.own ((Touch.refl _ _).setCell _ _ (.inl rfl)) _ rfl ?_⟩
  rw [heap_setCell_same _ _ _ _ _ _ hr3.cells]
  simp [hB]

theorem rwrite_any (B rd rl rc : Nat) (R : Dsk) (n : Int) (a : Option Addr) (m c : Nat) (b : List UInt8) (w : World) (h : IsRef w B rd rl rc R) (hib : IsB w a m c b) (hok : R.ok) :
    Calls Tryz.prog 13 #[.pointer (some ⟨rd, 0, none⟩), .int .i64 n, .slice a m c] w fun e w' => e = .returned (.int .i64 (R.write n b).1) ∧ Touch (fun k => k = rd ∨ k = rl) w w' ∧ IsRef w' B rd rl rc (R.write n b).2 := by
  have hm := hib.1
  by_cases h1 : n < 0 ∨ (R.secs.length : Int) ≤ n ∨ 64 < b.length
  · have e : R.write n b = (1, R) := if_pos h1
    rw [e]
    refine (rwrite_bad B rd rl rc R n a m c w h (by omega)).mono ?_
    rintro e w' ⟨he, rfl⟩
    exact ⟨he, Touch.refl _ _, h⟩
  obtain ⟨k, rfl⟩ := Int.eq_ofNat_of_zero_le (show 0 ≤ n by omega)
  by_cases h2 : R.blown = true ∨ R.left = 0
  · have e : R.write k b = (8, { R with blown := true }) := by unfold Dsk.write; rw [if_neg h1, if_pos h2]
    rw [e]
    refine (rwrite_blown B rd rl rc R k a m c w h (by omega) (by omega) h2).mono ?_
    rintro e w' ⟨he, ht, hd⟩
    exact ⟨he, ht.weaken (fun k _ hk => .inl hk), hd⟩
  have e : R.write k b = (0, { R with secs := R.secs.set (k : Int).toNat (padS b), left := if 0 < R.left then R.left - 1 else R.left, writes := R.writes + 1 }) := by unfold Dsk.write; rw [if_neg h1, if_neg h2]
  have hB : R.blown = false := by
    cases hb : R.blown with
    | false => rfl
    | true => exact absurd (.inl hb) h2
  rw [e]
  by_cases h3 : 0 < R.left
  · rw [if_pos h3]
    exact rwrite_pos B rd rl rc R k a m c b w h (by omega) (by omega) hib hB h3 hok.2.2 hok.1 hok.2.1
  · rw [if_neg h3]
    exact rwrite_neg B rd rl rc R k a m c b w h (by omega) (by omega) hib hB (by omega) hok.1 hok.2.1

end Go.Proofs.YthenakdfdpdknaaGreatDoor

/- The document's disk: New; conditions: those typed. -/
namespace Go.Proofs.YthenakdfdpdknaaGreatDoor
open Go.RowKit
set_option linter.unusedVariables false
set_option linter.unusedSimpArgs false
set_option maxRecDepth 100000

theorem make64 (w : World) : (Instr.makeSlice 24 (.int .i64 64) (.int .i64 64)).run Tryz.prog w = .ok (.slice (some ⟨w.heap.size, 0, none⟩) 64 64) (w.alloc (.cells z64.toArray 5)) := by
  obtain ⟨i0, hi, hz0, hz1, hz2⟩ := info_parts infoU8
  have h := run_make (P := Tryz.prog) w 24 5 i0 _ Tryz.underlying24 hi hz0 .i64 .i64 64 64 (by decide) (by decide) (by rw [hz2]; decide) (by decide)
  rw [hz1] at h
  have e : (madeCells (Value.int .u8 0).cells (64 * 1)) = z64.toArray := by rw [← z64_made]
  rw [← e]
  exact h

theorem rnew_bad (n : Int) (w : World) (hn : n < 1 ∨ 1024 < n) :
    Calls Tryz.prog 6 #[.int .i64 n] w fun e w' => e = .returned (.tuple #[.pointer none, .int .i64 1]) ∧ w = w' := by
  rcases hn with hn | hn
  · go_enter Tryz.func6, Tryz.ntmps6
    go_wp2
    go_ret2
    exact ⟨rfl, rfl⟩
  · have h1 : ¬ n < 1 := by omega
    go_enter Tryz.func6, Tryz.ntmps6
    go_wp2
    go_ret2
    exact ⟨rfl, rfl⟩

/-- The disk under way: k sectors are laid. -/
def RNewSt (w0 w : World) (rd k : Nat) (b : Option Addr) (c : Nat) : Prop :=
  Below w0.heap.size w0 w ∧ w0.heap.size ≤ rd ∧ w.heap[rd]? = some (.cells #[.slice b k c, .int .i64 (-1), .bool false, .int .i64 0] 65 (0, 0)) ∧
    ∃ gs : List Nat, gs.length = k ∧ w.ownsRow w0.heap.size 24 1 (.slice b k c) k (gs.map sl64) ∧ (∀ i (h : i < gs.length), RowB w gs[i] zsec ∧ w0.heap.size ≤ gs[i]) ∧ ∀ i j (hi : i < gs.length) (hj : j < gs.length), i ≠ j → gs[i] ≠ gs[j]

theorem RNewSt.row {w0 w : World} {rd k : Nat} {b : Option Addr} {c : Nat} (h : RNewSt w0 w rd k b c) : ∃ gs : List Nat, w.ownsRow w0.heap.size 24 1 (.slice b k c) k (gs.map sl64) ∧ (∀ x, (Value.slice b k c).ownBlock = some x → x ≠ rd ∧ x < w.heap.size) := by
  obtain ⟨_, _, h3, gs, _, h5, _⟩ := h
  refine ⟨gs, h5, fun x hx => ?_⟩
  obtain ⟨cur, hc⟩ := owns_block h5 hx
  refine ⟨fun e => ?_, lt_of_heap hc⟩
  rw [e, h3] at hc
  have := (Obj.cells.inj (Option.some.inj hc)).2.1
  revert this; decide
theorem RNewSt.step {w0 w wa w8 : World} {rd k : Nat} {b b8 : Option Addr} {c c8 g : Nat} (h : RNewSt w0 w rd k b c) (hba : Below w.heap.size w wa) (hG : g = w.heap.size) (hga : wa.heap[g]? = some (.cells z64.toArray 5 (0, 0))) (gs' : List Nat) (he : w.ownsRow w0.heap.size 24 1 (.slice b k c) k (gs'.map sl64))
    (hown : w8.ownsRow w0.heap.size 24 1 (.slice b8 (k + 1) c8) (k + 1) (gs'.map sl64 ++ [sl64 g])) (ht8 : Touch (fun x => (Value.slice b k c).ownBlock = some x) wa w8) : RNewSt w0 (w8.setCell ⟨rd, 0, none⟩ (.slice b8 (k + 1) c8)) rd (k + 1) b8 c8 := by
  obtain ⟨_, _, hrow⟩ := h.row
  obtain ⟨h1, h2, h3, gs, h4, h5, h6, h7⟩ := h
  have hee : gs'.map sl64 = gs.map sl64 := by
    rcases he.2 with ⟨e1, e2⟩ | ⟨x, cap, cur, e1, _, e3, _, _, e4, e5⟩
    · have l1 := he.1
      have l2 := h5.1
      simp at l1 l2
      have : gs' = [] := List.eq_nil_of_length_eq_zero (by omega)
      have : gs = [] := List.eq_nil_of_length_eq_zero (by omega)
      subst_vars; rfl
    · rcases h5.2 with ⟨f1, _⟩ | ⟨x', cap', cur', f1, _, f3, _, _, f4, f5⟩
      · rw [e1] at f1; cases f1
      · rw [e1] at f1; cases f1
        rw [e3] at f3
        have := (Obj.cells.inj (Option.some.inj f3)).1
        subst this
        rw [← e5, ← f5]
  rw [hee] at hown
  have hsub : ∀ x, (Value.slice b k c).ownBlock = some x → x ≠ rd ∧ x < w.heap.size := hrow
  have hT : Touch (fun x => (Value.slice b k c).ownBlock = some x) w w8 := (Touch.of_below hba).trans ht8
  have hrd8 : w8.heap[rd]? = some (.cells #[.slice b k c, .int .i64 (-1), .bool false, .int .i64 0] 65 (0, 0)) := hT.heap h3 (fun e => (hsub rd e).1 rfl)
  have hrows : ∀ {x : Nat} {y : List UInt8}, RowB w x y → RowB w8 x y := fun {x y} hx => hT.heap hx (fun e => by
    obtain ⟨cur, hc⟩ := owns_block h5 e
    unfold RowB at hx
    rw [hx] at hc
    have := (Obj.cells.inj (Option.some.inj hc)).2.1
    revert this; decide)
  have hg8 : RowB w8 g zsec := ht8.heap hga (fun e => by have := (hsub g e).2; omega)
  have htc : Touch (fun x => x = rd) w8 (w8.setCell ⟨rd, 0, none⟩ (.slice b8 (k + 1) c8)) := (Touch.refl _ _).setCell _ _ (.inl rfl)
  have hrowc : ∀ {x : Nat} {y : List UInt8}, RowB w8 x y → RowB (w8.setCell ⟨rd, 0, none⟩ (.slice b8 (k + 1) c8)) x y := fun {x y} hx => htc.heap hx (fun e => by
    unfold RowB at hx
    rw [e, hrd8] at hx
    have := (Obj.cells.inj (Option.some.inj hx)).2.1
    revert this; decide)
  have hlt : ∀ i (hi : i < gs.length), gs[i] < w.heap.size := fun i hi => lt_of_heap (h6 i hi).1
  refine ⟨(h1.trans (hT.below h1.size (fun x hx e => by
      have := h5.lt x e
      omega))).setCell h2 _, h2, ?_, gs ++ [g], by simp [h4], ?_, fun i hi => ?_, fun i j hi hj hij => ?_⟩
  · rw [heap_setCell_same _ _ _ _ _ _ hrd8]; rfl
  · rw [List.map_append, List.map_singleton]
    refine owns_touch hown htc (fun x hx e => ?_)
    obtain ⟨cur, hc⟩ := owns_block hown hx
    rw [e, hrd8] at hc
    have := (Obj.cells.inj (Option.some.inj hc)).2.1
    revert this; decide
  · by_cases hil : i < gs.length
    · rw [List.getElem_append_left hil]
      exact ⟨hrowc (hrows (h6 i hil).1), (h6 i hil).2⟩
    · have : i = gs.length := by simp at hi; omega
      subst this
      simp only [List.getElem_append_right (Nat.le_refl _), Nat.sub_self, List.getElem_cons_zero]
      exact ⟨hrowc hg8, by rw [hG]; exact h1.size⟩
  · by_cases hil : i < gs.length
    · rw [List.getElem_append_left hil]
      by_cases hjl : j < gs.length
      · rw [List.getElem_append_left hjl]; exact h7 i j hil hjl hij
      · have : j = gs.length := by simp at hj; omega
        subst this
        simp only [List.getElem_append_right (Nat.le_refl _), Nat.sub_self, List.getElem_cons_zero]
        have := hlt i hil
        omega
    · have : i = gs.length := by simp at hi; omega
      subst this
      have hjl : j < gs.length := by simp at hj; omega
      rw [List.getElem_append_left hjl]
      simp only [List.getElem_append_right (Nat.le_refl _), Nat.sub_self, List.getElem_cons_zero]
      have := hlt j hjl
      omega
theorem RNewSt.done {w0 w : World} {rd k : Nat} {b : Option Addr} {c : Nat} (h : RNewSt w0 w rd k b c) (h1 : 1 ≤ k) (h2 : k ≤ 1024) : ∃ rl, IsRef w w0.heap.size rd rl c ⟨List.replicate k zsec, -1, false, 0⟩ := by
  obtain ⟨_, h3, h4, gs, h5, h6, h7, h8⟩ := h
  rcases h6.2 with ⟨e1, e2⟩ | ⟨rl, cap, cur, e1, _⟩
  · omega
  · cases e1
    refine ⟨rl, h3, by simpa using h1, by simpa using h2, fun s hs => by rw [List.eq_of_mem_replicate hs]; exact zsec_length, by simpa using h4, gs, by simpa using h5, by simpa using h6, fun i hi hi' => ⟨by simpa using (h7 i hi).1, (h7 i hi).2⟩, h8⟩

/-- The worlds in which a new sector and the list of it lie, as the draws leave them. -/
def Pair (w W : World) (v : Value) : Prop :=
  W = (w.alloc (.cells z64.toArray 5)).alloc (.cells #[v] 24) ∨ W = ((w.alloc (.cells z64.toArray 5)).alloc (.cells #[v] 24)).drew ∨
  W = (w.alloc (.cells z64.toArray 5)).drew.alloc (.cells #[v] 24) ∨ W = (w.drew.alloc (.cells z64.toArray 5)).alloc (.cells #[v] 24)
theorem Pair.facts {w W : World} {v : Value} (h : Pair w W v) : Below w.heap.size w W ∧ W.heap[w.heap.size]? = some (.cells z64.toArray 5 (0, 0)) ∧ W.heap[w.heap.size + 1]? = some (.cells #[v] 24 (0, 0)) := by
  have hb := (((Below.refl w.heap.size w).alloc (Nat.le_refl _) (.cells z64.toArray 5)).alloc (by simp) (.cells #[v] 24))
  have h0 : ((w.alloc (.cells z64.toArray 5)).alloc (.cells #[v] 24)).heap[w.heap.size]? = some (.cells z64.toArray 5 (0, 0)) := below_heap (((Below.refl (w.heap.size + 1) (w.alloc (.cells z64.toArray 5))).alloc (by simp) _)) (heap_new _ _) (by omega)
  have h1 : ((w.alloc (.cells z64.toArray 5)).alloc (.cells #[v] 24)).heap[w.heap.size + 1]? = some (.cells #[v] 24 (0, 0)) := by
    have := heap_new (w.alloc (.cells z64.toArray 5)) (.cells #[v] 24 (0, 0))
    rwa [show (w.alloc (.cells z64.toArray 5)).heap.size = w.heap.size + 1 by simp] at this
  rcases h with rfl | rfl | rfl | rfl
  · exact ⟨hb, h0, h1⟩
  · exact ⟨hb.drew, h0, h1⟩
  · exact ⟨hb.drew, h0, h1⟩
  · exact ⟨hb.drew, h0, h1⟩
theorem at_pair (w W : World) (v : Value) (h : Pair w W v) : At W (some ⟨w.heap.size + 1, 0, none⟩) [v] := At.of_cells fun j hj => by
  have hj0 : j = 0 := by simpa using hj
  subst hj0
  rw [Nat.zero_add, cell_of_block h.facts.2.2]; rfl
theorem RNewSt.step2 {w0 w w8 : World} {rd k : Nat} {b b8 : Option Addr} {c c8 : Nat} (h : RNewSt w0 w rd k b c) (gs' : List Nat) (he : w.ownsRow w0.heap.size 24 1 (.slice b k c) k (gs'.map sl64)) (wa : World) (hp : Pair w wa (sl64 w.heap.size))
    (hown : w8.ownsRow w0.heap.size 24 1 (.slice b8 (k + 1) c8) (k + 1) (gs'.map sl64 ++ [sl64 w.heap.size])) (hg : wa.grownBy w8 (Value.slice b k c).ownBlock) :
    w8.heap[rd]? = some (.cells #[.slice b k c, .int .i64 (-1), .bool false, .int .i64 0] 65 (0, 0)) ∧ RNewSt w0 (w8.setCell ⟨rd, 0, none⟩ (.slice b8 (k + 1) c8)) rd (k + 1) b8 c8 := by
  obtain ⟨hba, hz, _⟩ := hp.facts
  have ht8 : Touch (fun x => (Value.slice b k c).ownBlock = some x) wa w8 := grown_touch (Below.refl _ _) hg
  obtain ⟨_, _, hrow⟩ := h.row
  exact ⟨((Touch.of_below hba).trans ht8).heap h.2.2.1 (fun e => (hrow _ e).1 rfl), h.step hba rfl hz gs' he hown ht8⟩

set_option maxHeartbeats 4000000 in
theorem rnew_good (n : Nat) (w : World) (h1 : 1 ≤ n) (h2 : n ≤ 1024) :
    Calls Tryz.prog 6 #[.int .i64 n] w fun e w' => ∃ rd rl rc, e = .returned (.tuple #[.pointer (some ⟨rd, 0, none⟩), .int .i64 0]) ∧ Below w.heap.size w w' ∧ IsRef w' w.heap.size rd rl rc ⟨List.replicate n zsec, -1, false, 0⟩ := by
  have hd1 : decide ((n : Int) < 1) = false := by simp; omega
  have hd2 : decide ((1024 : Int) < (n : Int)) = false := by simp; omega
  have hmk := make64
  go_enter Tryz.func6, Tryz.ntmps6
  go_wp2
  go_loopw [5] (fun i wr => ∃ k b c, k ≤ n ∧ i = .int .i64 (k : Nat) ∧ Hid (RNewSt w wr w.heap.size k b c)) (fun i _ => n - (intOf i).toNat)
  case atStart => exact ⟨0, none, 0, Nat.zero_le _, rfl, Lib.hid ⟨(Below.refl _ _).alloc (Nat.le_refl _) _, Nat.le_refl _, heap_new _ _, [], rfl, World.ownsRow_nil _ _ _ _, fun i hi => by simp at hi, fun i j hi => by simp at hi⟩⟩
  case round =>
    obtain ⟨k, b, c, hk, rfl, HS⟩ := hrel
    by_cases hlt : k < n
    · have f0 : wr.cell? ⟨w.heap.size, 0, none⟩ = some (.slice b k c) := by rw [cell_of_block HS.out.2.2.1]; rfl
      obtain ⟨gs, hrow, hsub⟩ := HS.out.row
      have hsz : w.heap.size ≤ wr.heap.size := HS.out.1.size
      have HSUB := Lib.hid hsub
      have HRD := Lib.hid HS.out.2.2.1
      have HR := Lib.hid hrow
      have k0 : wr.drew.cell? ⟨w.heap.size, 0, none⟩ = some (.slice b k c) := f0
      have k1 : (wr.alloc (.cells z64.toArray 5)).drew.cell? ⟨w.heap.size, 0, none⟩ = some (.slice b k c) := cell_alloc f0 _
      have k2 : (wr.drew.alloc (.cells z64.toArray 5)).cell? ⟨w.heap.size, 0, none⟩ = some (.slice b k c) := cell_alloc k0 _
      have k3 : (wr.drew.alloc (.cells z64.toArray 5)).drew.cell? ⟨w.heap.size, 0, none⟩ = some (.slice b k c) := k2
      have k4 : ((wr.alloc (.cells z64.toArray 5)).alloc (.cells #[.slice (some ⟨wr.heap.size, 0, none⟩) 64 64] 24)).drew.cell? ⟨w.heap.size, 0, none⟩ = some (.slice b k c) := cell_alloc k1 _
      have k5 : ((wr.drew.alloc (.cells z64.toArray 5)).alloc (.cells #[.slice (some ⟨wr.heap.size, 0, none⟩) 64 64] 24)).cell? ⟨w.heap.size, 0, none⟩ = some (.slice b k c) := cell_alloc k2 _
      clear hrow hsub
      go_wp2
      go_region_law (first
        | (refine step_append_any rowBs rfl (.tmp 23) (.tmp 25) (by rfl) w.heap.size (.slice b k c) k (gs.map sl64) (by simp [Act.eval, Act.put]) (owns_touch HR.out (by repeat (first | exact Touch.refl _ _ | apply Touch.drew | apply Touch.alloc)) (fun _ _ => id)) (some ⟨wr.heap.size + 1, 0, none⟩) 1 1 [sl64 wr.heap.size] (by simp [Act.eval, Act.put]) rfl (at_pair wr _ _ (by first | exact .inl rfl | exact .inr (.inl rfl) | exact .inr (.inr (.inl rfl)) | exact .inr (.inr (.inr rfl)))) (one_cell _ rfl) (by unfold maxLen; omega) (by omega) (by simp; omega) ?_; intro b8 c8 w8 hown8 hg8 hat8
           have HN := Lib.hid (HS.out.step2 gs HR.out _ (by first | exact .inl rfl | exact .inr (.inl rfl) | exact .inr (.inr (.inl rfl)) | exact .inr (.inr (.inr rfl))) hown8 hg8)
           have hb8 := HN.out.1
           have q1 : w8.cell? ⟨w.heap.size, 0, none⟩ = some (.slice b k c) := by rw [cell_of_block hb8]; rfl
           have qf : w8.frozen? ⟨w.heap.size, 0, none⟩ = false := book_frozen hb8
           clear hown8 hg8 hat8 hb8)
        | fail)
      all_goals
        have HN2 := Lib.hid HN.out.2
        clear q1 qf f0 k0 k1 k2 k3 k4 k5
        go_wp2
        go_roundw
        case rel => exact ⟨k + 1, b8, c8, by omega, by go_num, HN2⟩
        case measure => simp [intOf]; omega
    · have hke : k = n := by omega
      subst hke
      go_wp2
      go_ret2
      obtain ⟨rl, hr⟩ := HS.out.done h1 h2
      exact ⟨_, rl, c, rfl, HS.out.1, hr⟩

end Go.Proofs.YthenakdfdpdknaaGreatDoor

/- The document's disk: Copy; conditions: those typed. -/
namespace Go.Proofs.YthenakdfdpdknaaGreatDoor
open Go.RowKit
set_option linter.unusedVariables false
set_option linter.unusedSimpArgs false
set_option maxRecDepth 100000

/-- A sector's own block holds other bytes. -/
theorem IsRef.setRow {w w' : World} {B rd rl rc : Nat} {R : Dsk} (h : IsRef w B rd rl rc R) (n : Nat) (hn : n < R.secs.length) (g : Nat) (hc : w.cell? ⟨rl, n, none⟩ = some (sl64 g)) (x : List UInt8) (hx : x.length = 64) (ht : Touch (fun k => k = g) w w') (hg : RowB w' g x) :
    IsRef w' B rd rl rc { R with secs := R.secs.set n x } := by
  obtain ⟨gs, g1, g2, g3, g4⟩ := h.row
  have hcell : ∀ i (hi : i < gs.length), w.cell? ⟨rl, i, none⟩ = some (sl64 gs[i]) := fun i hi => cells_of_owns g2 i _ (by rw [List.getElem?_map, List.getElem?_eq_getElem hi]; rfl)
  have hgn : gs[n]'(by omega) = g := by
    have := (hcell n (by omega)).symm.trans hc
    unfold sl64 at this
    simpa using this
  have hgr := (g3 n (by omega) hn).1
  rw [hgn] at hgr
  refine ⟨h.le, by simpa using h.pos, by simpa using h.most, fun s hs => ?_, ?_, gs, by simpa using g1, ?_, fun i hi hi' => ?_, g4⟩
  · rcases List.mem_or_eq_of_mem_set hs with hs | hs
    · exact h.secs s hs
    · rw [hs]; exact hx
  · have := ht.heap h.cells (fun e => by
      unfold RowB at hgr
      rw [← e, h.cells] at hgr
      have := (Obj.cells.inj (Option.some.inj hgr)).2.1
      revert this; decide)
    simpa using this
  · have := owns_touch g2 ht (fun k hk e => by
      obtain ⟨cur, hc2⟩ := owns_block g2 hk
      unfold RowB at hgr
      rw [e, hgr] at hc2
      have := (Obj.cells.inj (Option.some.inj hc2)).2.1
      revert this; decide)
    simpa using this
  · have hi3 : i < R.secs.length := by simpa using hi'
    by_cases hin : n = i
    · subst hin
      simp only [List.getElem_set_self]
      exact ⟨by rw [hgn]; exact hg, (g3 n hi hi3).2⟩
    · simp only [List.getElem_set_ne hin]
      exact ⟨ht.heap (g3 i hi hi3).1 (fun e => g4 n i (by omega) hi hin (by rw [hgn, e])), (g3 i hi hi3).2⟩
theorem IsRef.other {w : World} {B rd rl rc n g : Nat} {R : Dsk} {x : List UInt8} (h : IsRef w B rd rl rc R) (hg : RowB w g x) : rd ≠ g ∧ rl ≠ g := by
  obtain ⟨gs, g1, g2, g3, g4⟩ := h.row
  unfold RowB at hg
  constructor
  · intro e
    rw [← e, h.cells] at hg
    have := (Obj.cells.inj (Option.some.inj hg)).2.1
    revert this; decide
  · intro e
    obtain ⟨cur, hc2⟩ := owns_block g2 (k := rl) rfl
    rw [e, hg] at hc2
    have := (Obj.cells.inj (Option.some.inj hc2)).2.1
    revert this; decide

/-- The first k sectors are copied. -/
def half (L : List (List UInt8)) (k : Nat) : List (List UInt8) := L.take k ++ List.replicate (L.length - k) zsec
theorem half_length (L : List (List UInt8)) (k : Nat) (h : k ≤ L.length) : (half L k).length = L.length := by unfold half; simp; omega
theorem half_set (L : List (List UInt8)) (k : Nat) (h : k < L.length) : (half L k).set k L[k] = half L (k + 1) := by
  unfold half
  rw [List.set_append_right _ _ (by simp; omega)]
  rw [show L.length - k = (L.length - (k + 1)) + 1 by omega, List.replicate_succ, List.length_take, Nat.min_eq_left (by omega), Nat.sub_self, List.set_cons_zero, List.take_succ_eq_append_getElem h, List.append_assoc]
  rfl
theorem half_all (L : List (List UInt8)) : half L L.length = L := by unfold half; simp
theorem half_nil (L : List (List UInt8)) : half L 0 = List.replicate L.length zsec := by unfold half; simp

set_option maxHeartbeats 4000000 in
theorem rcopy_any (B rd rl rc : Nat) (R : Dsk) (w : World) (h : IsRef w B rd rl rc R) :
    Calls Tryz.prog 15 #[.pointer (some ⟨rd, 0, none⟩)] w fun e w' => ∃ cd cl cc, e = .returned (.pointer (some ⟨cd, 0, none⟩)) ∧ Below w.heap.size w w' ∧ IsRef w' w.heap.size cd cl cc ⟨R.secs, -1, false, 0⟩ := by
  obtain ⟨f0, f1, f2, f3⟩ := h.field
  have H := Lib.hid h
  clear h f1 f2 f3
  go_enter Tryz.func15, Tryz.ntmps15
  go_wp2_with fail
  refine (rnew_good R.secs.length w H.out.pos H.out.most).mono ?_; rintro e w1 ⟨cd, cl, cc, rfl, hb1, hc1⟩
  rw [← half_nil] at hc1
  have HB1 := Lib.hid hb1
  have HC1 := Lib.hid hc1
  clear hb1 hc1 f0
  go_wp2_with fail
  obtain ⟨M, hM⟩ : ∃ M, M = R.secs.length := ⟨_, rfl⟩
  have HM := Lib.hid hM
  have hmost : M ≤ 1024 := by rw [hM]; exact H.out.most
  clear hM
  go_loopw [5] (fun i wr => ∃ k, k ≤ M ∧ i = .int .i64 (k : Nat) ∧ Hid (Below w.heap.size w wr) ∧ Hid (IsRef wr w.heap.size cd cl cc ⟨half R.secs k, -1, false, 0⟩)) (fun i _ => M - (intOf i).toNat)
  case atStart => exact ⟨0, Nat.zero_le _, rfl, HB1, HC1⟩
  case round =>
    obtain ⟨k, hk, rfl, HB, HC⟩ := hrel
    have HR : Hid (IsRef wr B rd rl rc R) := Lib.hid (H.out.below HB.out)
    have f0 : wr.cell? ⟨rd, 0, none⟩ = some (.slice (some ⟨rl, 0, none⟩) M rc) := by rw [HM.out]; exact HR.out.field.1
    by_cases hlt : k < M
    · have hkR : k < R.secs.length := by rw [← HM.out]; exact hlt
      have hkc : k < (half R.secs k).length := by rw [half_length _ _ (by omega)]; exact hkR
      have c0 : wr.cell? ⟨cd, 0, none⟩ = some (.slice (some ⟨cl, 0, none⟩) M cc) := by
        have := HC.out.field.1
        dsimp only at this
        rwa [half_length _ _ (by omega), ← HM.out] at this
      obtain ⟨g, c1, hg⟩ := HC.out.sec k hkc
      obtain ⟨q, f1, hq⟩ := HR.out.sec k hkR
      have h64 := H.out.secs _ (List.getElem_mem hkR)
      have hne1 := HC.out.other (n := 0) hg
      have hne2 := HR.out.other (n := 0) hg
      have HG := Lib.hid hg
      have hzl : (half R.secs k)[k].length = 64 := HC.out.secs _ (List.getElem_mem hkc)
      obtain ⟨z, hz⟩ : ∃ z, z = (half R.secs k)[k] := ⟨_, rfl⟩
      have hgd : wr.drew.heap[g]? = some (.cells (bcells z).toArray 5 (0, 0)) := by rw [hz]; exact hg
      rw [← hz] at hzl
      have hgd' : wr.heap[g]? = some (.cells (bcells z).toArray 5 (0, 0)) := hgd
      have hat : At wr (some ⟨q, 0, none⟩) (bcells R.secs[k]) := At.of_cells fun j hj => by
        rw [Nat.zero_add, cell_of_block hq, List.getElem?_toArray, List.getElem?_eq_getElem hj]
      have hatd : At wr.drew (some ⟨q, 0, none⟩) (bcells R.secs[k]) := hat
      obtain ⟨cs, hcs⟩ : ∃ cs, cs = bcells R.secs[k] := ⟨_, rfl⟩
      rw [← hcs] at hat hatd
      have HO : Hid (∀ v ∈ cs, v.oneCell' = true) := Lib.hid (by rw [hcs]; exact bcells_one _)
      have hln : Hid (cs.length = Nat.min 64 64 * 1) := Lib.hid (by rw [hcs, bcells_length, h64]; rfl)
      have hfit : 0 + cs.length ≤ (bcells z).toArray.size := by rw [hcs, List.size_toArray, bcells_length, bcells_length, h64, hzl]; decide
      have HCS := Lib.hid hcs
      have H64 := Lib.hid h64
      have hZL := Lib.hid hzl
      have C1 := Lib.hid c1
      have K : Hid (∀ {u : World}, Touch (fun k => k = g) wr u → u.cell? ⟨cd, 0, none⟩ = some (.slice (some ⟨cl, 0, none⟩) M cc) ∧ u.cell? ⟨cl, k, none⟩ = some (.slice (some ⟨g, 0, none⟩) 64 64) ∧ u.cell? ⟨rd, 0, none⟩ = some (.slice (some ⟨rl, 0, none⟩) M rc) ∧ u.cell? ⟨rl, k, none⟩ = some (.slice (some ⟨q, 0, none⟩) 64 64)) := Lib.hid (fun ht => ⟨ht.cell c0 hne1.1, ht.cell c1 hne1.2, ht.cell f0 hne2.1, ht.cell f1 hne2.2⟩)
      clear hg hq h64 hz hzl hcs hne1 hne2
      go_wp2_with fail
      go_region_held3 (fun w' => w'.cell? ⟨cd, 0, none⟩ = some (.slice (some ⟨cl, 0, none⟩) M cc) ∧ w'.cell? ⟨cl, k, none⟩ = some (.slice (some ⟨g, 0, none⟩) 64 64) ∧ w'.cell? ⟨rd, 0, none⟩ = some (.slice (some ⟨rl, 0, none⟩) M rc) ∧ w'.cell? ⟨rl, k, none⟩ = some (.slice (some ⟨q, 0, none⟩) 64 64)) (first | go_keep | exact K.out hT2) (first
        | (refine step_copy_any rowU8 rfl (.tmp 30) (.tmp 37) 24 (by rfl) (some ⟨g, 0, none⟩) (some ⟨q, 0, none⟩) 64 64 64 64 (by simp [Act.eval]) (by simp [Act.eval]) g 0 (bcells z).toArray 5 (by first | exact hgd | exact hgd') cs hln.out (fun _ => rfl) (by first | exact hat | exact hatd) hfit HO.out ?_; intro w2 hg2 ht2; have hT2 : Touch (fun k => k = g) wr w2 := (by first | exact ht2 | exact (Touch.refl _ wr).drew.trans ht2))
        | fail)
      have er : (List.take 0 (bcells z).toArray.toList ++ cs ++ List.drop (0 + cs.length) (bcells z).toArray.toList).toArray = (bcells R.secs[k]).toArray := by
        rw [HCS.out]
        simp [bcells_length, H64.out, hZL.out]
      rw [er] at hg2
      have hne := HC.out.lt
      have HN : Hid (IsRef w2 w.heap.size cd cl cc ⟨half R.secs (k + 1), -1, false, 0⟩) := Lib.hid (by
        have := HC.out.setRow k hkc g (by exact C1.out) R.secs[k] H64.out hT2 hg2
        dsimp only at this
        rwa [half_set _ _ hkR] at this)
      have HB2 : Hid (Below w.heap.size w w2) := Lib.hid (HB.out.trans (hT2.below HB.out.size (fun x hx e => by
        obtain ⟨gs, g1, g2, g3, g4⟩ := HC.out.row
        have hkg : k < gs.length := by rw [g1]; exact hkc
        have : wr.cell? ⟨cl, k, none⟩ = some (sl64 gs[k]) := cells_of_owns g2 k _ (by rw [List.getElem?_map, List.getElem?_eq_getElem hkg]; rfl)
        have h2 := this.symm.trans C1.out
        unfold sl64 at h2
        have h3 : gs[k] = g := by simpa using h2
        have := (g3 k hkg hkc).2
        omega)))
      clear er hg2 ht2 hT2 hgd hgd' hat hatd hfit f0 c0 c1 f1 hne
      go_wp2
      go_roundw
      case rel => exact ⟨k + 1, by omega, by go_num, HB2, HN⟩
      case measure => simp [intOf]; omega
    · have hke : k = M := by omega
      subst hke
      go_wp2
      go_ret
      have hc := HC.out
      rw [HM.out, half_all] at hc
      exact ⟨cd, cl, cc, rfl, HB.out, hc⟩

end Go.Proofs.YthenakdfdpdknaaGreatDoor

/- The statements helper SameBytes; conditions: those typed. -/
namespace Go.Proofs.YthenakdfdpdknaaGreatDoor
open Go.RowKit
set_option linter.unusedVariables false

set_option maxHeartbeats 1000000 in
theorem sameB_some (a b ao bo c d : Nat) (l m : List UInt8) (w : World) (hlen : l.length ≤ 9223372036854775807) (hlm : l.length = m.length)
    (hl : ∀ i (h : i < l.length), w.cell? ⟨a, ao + i, none⟩ = some (.int .u8 l[i].toNat)) (hm : ∀ i (h : i < m.length), w.cell? ⟨b, bo + i, none⟩ = some (.int .u8 m[i].toNat)) :
    Calls Tryz.prog 22 #[.slice (some ⟨a, ao, none⟩) l.length c, .slice (some ⟨b, bo, none⟩) l.length d] w fun e w' => e = .returned (.bool (decide (l = m))) ∧ ∃ j, w' = w.drewN j := by
  go_enter Tryz.func22, Tryz.ntmps22
  go_wp2
  go_loopw [5] (fun i wr => ∃ k j : Nat, k ≤ l.length ∧ i = .int .i64 k ∧ wr = w.drewN j ∧ l.take k = m.take k) (fun i _ => l.length - (intOf i).toNat)
  case atStart => exact ⟨0, 0, Nat.zero_le _, rfl, rfl, rfl⟩
  case round =>
    obtain ⟨k, j, hk, rfl, rfl, hs⟩ := hrel
    have HS := Lib.hid hs
    clear hs
    have HLM := Lib.hid hlm
    clear hlm
    by_cases hlt : k < l.length
    · have hkm : k < m.length := by rw [← HLM.out]; exact hlt
      have h1 := hl k hlt
      have h2 := hm k hkm
      clear hl hm
      by_cases he : l[k] = m[k]
      · have HE := Lib.hid he
        have hn : ((l[k].toNat : Int) != (m[k].toNat : Int)) = false := by rw [he]; simp
        clear he
        go_wp2
        go_quiet (fail)
        go_wp2
        go_roundw
        case rel => exact ⟨k + 1, _, by omega, by go_num, rfl, by rw [List.take_succ_eq_append_getElem hlt, List.take_succ_eq_append_getElem hkm, HS.out, HE.out]⟩
        case measure => simp [intOf]; omega
      · have HE := Lib.hid he
        have hn : ((l[k].toNat : Int) != (m[k].toNat : Int)) = true := by rw [bne_iff_ne]; exact fun h => he (UInt8.toNat_inj.1 (by omega))
        clear he
        go_wp2
        go_quiet (fail)
        go_wp2
        go_ret
        refine ⟨?_, j + nq, by simp⟩
        have hne : decide (l = m) = false := decide_eq_false (fun h => HE.out (by subst h; rfl))
        rw [hne]; rfl
    · have hkk : k = l.length := by omega
      subst hkk
      clear hl hm
      have hlm' : l = m := by
        have h := HS.out
        rw [List.take_length, HLM.out, List.take_length] at h
        exact h
      have HQ := Lib.hid hlm'
      clear hlm'
      go_wp2
      go_ret
      refine ⟨?_, _, rfl⟩
      rw [decide_eq_true HQ.out]; rfl

theorem sameB_apart (a b : Option Addr) (n m c d : Nat) (w : World) (hnm : n ≠ m) :
    Calls Tryz.prog 22 #[.slice a n c, .slice b m d] w fun e w' => e = .returned (.bool false) ∧ ∃ j, w' = w.drewN j := by
  have hne : ((n : Int) != (m : Int)) = true := by rw [bne_iff_ne]; omega
  go_enter Tryz.func22, Tryz.ntmps22
  go_wp2
  go_ret
  exact ⟨rfl, 0, rfl⟩

theorem sameB_nil (a b : Option Addr) (c d : Nat) (w : World) :
    Calls Tryz.prog 22 #[.slice a 0 c, .slice b 0 d] w fun e w' => e = .returned (.bool true) ∧ ∃ j, w' = w.drewN j := by
  go_enter Tryz.func22, Tryz.ntmps22
  go_wp2
  go_loop [5] (fun i => i = .int .i64 0) (fun _ => 0)
  case atStart => rfl
  case round =>
    obtain rfl := hrel
    go_wp2
    go_ret
    exact ⟨rfl, 0, rfl⟩

theorem sameB_any (a b : Option Addr) (n m c d : Nat) (l k : List UInt8) (w : World) (hl : IsB w a n c l) (hk : IsB w b m d k) :
    Calls Tryz.prog 22 #[.slice a n c, .slice b m d] w fun e w' => e = .returned (.bool (decide (l = k))) ∧ ∃ j, w' = w.drewN j := by
  by_cases hnm : n = m
  · obtain ⟨rfl, h1, h2, h3⟩ := hl
    obtain ⟨rfl, k1, k2, k3⟩ := hk
    rcases h3 with ⟨rfl, _⟩ | ⟨b1, o1, rfl, hb1, hc1⟩
    · obtain rfl : k = [] := List.eq_nil_of_length_eq_zero hnm.symm
      exact sameB_nil a b c d w
    · rcases k3 with ⟨rfl, _⟩ | ⟨b2, o2, rfl, hb2, hc2⟩
      · obtain rfl : l = [] := List.eq_nil_of_length_eq_zero hnm
        exact sameB_nil _ b c d w
      · rw [← hnm]
        exact sameB_some b1 b2 o1 o2 c d l k w (by unfold maxLen at h2; omega) hnm hc1 hc2
  · have hne : decide (l = k) = false := decide_eq_false (fun h => hnm (by rw [hl.1, hk.1, h]))
    rw [hne]
    exact sameB_apart a b n m c d w hnm

end Go.Proofs.YthenakdfdpdknaaGreatDoor
