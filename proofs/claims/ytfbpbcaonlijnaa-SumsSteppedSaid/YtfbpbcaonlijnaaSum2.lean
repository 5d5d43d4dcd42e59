import Derived.Test.YtfbpbcaonlijnaaSum1
import Derived.Lib.SlBytesConst
namespace Go.Proofs.Ytfbpbcaonlijnaa
open Go.RowKit
set_option linter.unusedVariables false

theorem IsB.nil (w : World) : IsB w none 0 0 [] := ⟨rfl, Nat.le_refl _, by decide, .inl ⟨rfl, fun _ => rfl⟩⟩
theorem on_val (a : Option Addr) (m cap : Nat) (n : Nat) (v : Nat) (l : List UInt8) (w : World) (hn : n < 4294967296) (h : IsB w a m cap l) (hv : onN n l = v) :
    Calls Try.prog 11 #[.int .u32 n, .slice a m cap] w fun e w' => e = .returned (.int .u32 v) ∧ Below w.heap.size w w' :=
  hv ▸ on_any a m cap n l w hn h
theorem of_val (a : Option Addr) (m cap : Nat) (v : Nat) (l : List UInt8) (w : World) (h : IsB w a m cap l) (hv : onN 2166136261 l = v) :
    Calls Try.prog 9 #[.slice a m cap] w fun e w' => e = .returned (.int .u32 v) ∧ Below w.heap.size w w' :=
  hv ▸ of_any a m cap l w h
theorem alive_0 : onN 2166136261 [] = 2166136261 := by decide +kernel
theorem alive_1 : onN 2166136261 [97] = 3826002220 := by decide +kernel
theorem alive_2 : onN 2166136261 [102, 111, 111, 98, 97, 114] = 3214735720 := by decide +kernel
theorem alive_3 : onN 0 [0, 0, 0] = 0 := by decide +kernel
theorem alive_4 : onN 1 [0] = 16777619 := by decide +kernel


theorem cell_of_block {w : World} {b : Nat} {C : Array Value} {e : TypeId} {fz : Nat × Nat} (h : w.heap[b]? = some (.cells C e fz)) (i : Nat) : w.cell? ⟨b, i, none⟩ = C[i]? := by
  simp [World.cell?, h]
theorem heap_new (w : World) (o : Obj) : (w.alloc o).heap[w.heap.size]? = some o := by
  show (w.heap.push o)[w.heap.size]? = _
  simp
/-- A fresh row of bytes reads as its list. -/
theorem IsB.fresh (w : World) (l : List UInt8) (C : Array Value) (e : TypeId) (fz : Nat × Nat) (hC : C = (l.map fun b => Value.int .u8 b.toNat).toArray) (n c : Nat) (hn : n = l.length) (hc : c = l.length) (hm : l.length ≤ maxLen) :
    IsB (w.alloc (.cells C e fz)) (some ⟨w.heap.size, 0, none⟩) n c l := by
  subst hC
  refine ⟨hn, by omega, by omega, .inr ⟨_, _, rfl, by simp, fun i h => ?_⟩⟩
  rw [cell_of_block (heap_new w _)]
  simp [h]

set_option maxHeartbeats 400000 in
theorem alive_any (w : World) :
    Calls Try.prog 14 #[] w fun e w' => e = .returned (.bool true) ∧ Below w.heap.size w w' := by
  have kc := fun (w : World) (C : Array Value) (n c : Nat) => Lib.run_convert_bytes_const (P := Try.prog) w 22 5 C n c Try.underlying22 Try.underlying5
  go_enter Try.func14, Try.ntmps14
  go_wp2_with fail
  refine (of_val _ _ _ _ [] _ (IsB.nil _) alive_0).mono ?_; rintro e w1 ⟨rfl, hb1⟩
  go_wp2_with fail
  refine (of_val _ _ _ _ [97] _ (IsB.fresh _ _ _ _ _ rfl _ _ rfl rfl (by decide)) alive_1).mono ?_; rintro e w2 ⟨rfl, hb2⟩
  go_wp2_with fail
  refine (of_val _ _ _ _ [102, 111, 111, 98, 97, 114] _ (IsB.fresh _ _ _ _ _ rfl _ _ rfl rfl (by decide)) alive_2).mono ?_; rintro e w3 ⟨rfl, hb3⟩
  go_wp2_with fail
  refine (on_val _ _ _ 0 _ [0, 0, 0] _ (by decide) (IsB.fresh _ _ _ _ _ rfl _ _ rfl rfl (by decide)) alive_3).mono ?_; rintro e w4 ⟨rfl, hb4⟩
  go_wp2_with fail
  refine (on_val _ _ _ 1 _ [0] _ (by decide) (IsB.fresh _ _ _ _ _ rfl _ _ rfl rfl (by decide)) alive_4).mono ?_; rintro e w5 ⟨rfl, hb5⟩
  go_wp2_with fail
  go_ret
  refine ⟨rfl, ?_⟩
  have k1 := hb1.size
  have h2 : Below w.heap.size w w2 := (hb1.alloc hb1.size _).trans (hb2.mono (by simp; omega))
  have h3 : Below w.heap.size w w3 := (h2.alloc h2.size _).trans (hb3.mono (by have := h2.size; simp; omega))
  have h4 : Below w.heap.size w w4 := (h3.alloc h3.size _).trans (hb4.mono (by have := h3.size; simp; omega))
  exact (h4.alloc h4.size _).trans (hb5.mono (by have := h4.size; simp; omega))

def undoN (n : Int) : Int := n * ((2 - 16777619 * n) % 4294967296) % 4294967296
def undoK : Nat → Int
  | 0 => 16777619
  | k + 1 => undoN (undoK k)
theorem undoK_5 : undoK 5 = 899433627 := by decide +kernel

set_option maxHeartbeats 400000 in
theorem undo_any (w : World) :
    Calls Try.prog 15 #[] w fun e w' => e = .returned (.int .u32 899433627) ∧ w = w' := by
  go_enter Try.func15, Try.ntmps15
  go_wp2
  go_loop [1, 2] (fun n i => ∃ k : Nat, k ≤ 5 ∧ i = .int .i64 k ∧ n = .int .u32 (undoK k)) (fun _ i => 5 - (intOf i).toNat)
  case atStart => exact ⟨0, Nat.zero_le _, rfl, rfl⟩
  case round =>
    obtain ⟨k, hk, rfl, rfl⟩ := hrel
    by_cases hlt : k < 5
    · go_wp2
      go_round
      case rel => exact ⟨k + 1, by omega, by go_num, rfl⟩
      case measure => simp [intOf]; omega
    · have hkk : k = 5 := by omega
      subst hkk
      go_wp2
      go_ret
      exact ⟨rfl, rfl⟩
end Go.Proofs.Ytfbpbcaonlijnaa
