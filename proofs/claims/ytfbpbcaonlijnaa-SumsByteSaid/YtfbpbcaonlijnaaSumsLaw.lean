/- The statements of layer 2: for every input each returns true, and each argument reads behind the call as it read before; no condition. -/
import Derived.Test.YtfbpbcaonlijnaaSumsRef
import Derived.Test.YtfbpbcaonlijnaaTwin
namespace Go.Proofs.Ytfbpbcaonlijnaa
open Go.RowKit Go.ChangeShapes Go.WideShapes Go.ChangeAt
set_option linter.unusedVariables false

theorem on_val (a : Option Addr) (m cap : Nat) (n : Nat) (v : Nat) (l : List UInt8) (w : World) (hn : n < 4294967296) (h : IsB w a m cap l) (hv : onN n l = v) :
    Calls Try.prog 11 #[.int .u32 n, .slice a m cap] w fun e w' => e = .returned (.int .u32 v) ∧ Below w.heap.size w w' :=
  hv ▸ on_any a m cap n l w hn h

theorem of_val (a : Option Addr) (m cap : Nat) (v : Nat) (l : List UInt8) (w : World) (h : IsB w a m cap l) (hv : onN 2166136261 l = v) :
    Calls Try.prog 9 #[.slice a m cap] w fun e w' => e = .returned (.int .u32 v) ∧ Below w.heap.size w w' :=
  hv ▸ of_any a m cap l w h

theorem alive_0 : onN 2166136261 [] = 2166136261 := by decide +kernel

theorem alive_1 : onN 2166136261 [97] = 3826002220 := by decide +kernel

theorem alive_2 : onN 2166136261 [102, 111, 111, 98, 97, 114] = 3214735720 := by decide +kernel

theorem alive_3 : onN 0 [0, 0, 0] = 0 := by decide +kernel

theorem alive_4 : onN 1 [0] = 16777619 := by decide +kernel

set_option maxHeartbeats 400000 in
theorem alive_any (w : World) :
    Calls Try.prog 14 #[] w fun e w' => e = .returned (.bool true) ∧ Below w.heap.size w w' := by
  have kc := fun (w : World) (C : Array Value) (n c : Nat) => Lib.run_convert_bytes_const (P := Try.prog) w 22 5 C n c Try.underlying22 Try.underlying5
  go_enter Try.func14, Try.ntmps14
  go_wp2_with fail
  refine (of_val _ _ _ _ [] _ (IsB.nil _) alive_0).mono ?_; rintro e w1 ⟨rfl, hb1⟩
  go_wp2_with fail
  refine (of_val _ _ _ _ [97] _ (IsB.fresh _ _ _ _ _ rfl _ _ rfl rfl (by decide)) alive_1).mono ?_; rintro e w2 ⟨rfl, hb2⟩
  go_wp2_with fail
  refine (of_val _ _ _ _ [102, 111, 111, 98, 97, 114] _ (IsB.fresh _ _ _ _ _ rfl _ _ rfl rfl (by decide)) alive_2).mono ?_; rintro e w3 ⟨rfl, hb3⟩
  go_wp2_with fail
  refine (on_val _ _ _ 0 _ [0, 0, 0] _ (by decide) (IsB.fresh _ _ _ _ _ rfl _ _ rfl rfl (by decide)) alive_3).mono ?_; rintro e w4 ⟨rfl, hb4⟩
  go_wp2_with fail
  refine (on_val _ _ _ 1 _ [0] _ (by decide) (IsB.fresh _ _ _ _ _ rfl _ _ rfl rfl (by decide)) alive_4).mono ?_; rintro e w5 ⟨rfl, hb5⟩
  go_wp2_with fail
  go_ret
  refine ⟨rfl, ?_⟩
  have k1 := hb1.size
  have h2 : Below w.heap.size w w2 := (hb1.alloc hb1.size _).trans (hb2.mono (by simp; omega))
  have h3 : Below w.heap.size w w3 := (h2.alloc h2.size _).trans (hb3.mono (by have := h2.size; simp; omega))
  have h4 : Below w.heap.size w w4 := (h3.alloc h3.size _).trans (hb4.mono (by have := h3.size; simp; omega))
  exact (h4.alloc h4.size _).trans (hb5.mono (by have := h4.size; simp; omega))

def undoN (n : Int) : Int := n * ((2 - 16777619 * n) % 4294967296) % 4294967296

def undoK : Nat → Int
  | 0 => 16777619
  | k + 1 => undoN (undoK k)

theorem undoK_5 : undoK 5 = 899433627 := by decide +kernel

set_option maxHeartbeats 400000 in
theorem undo_any (w : World) :
    Calls Try.prog 15 #[] w fun e w' => e = .returned (.int .u32 899433627) ∧ w = w' := by
  go_enter Try.func15, Try.ntmps15
  go_wp2
  go_loop [1, 2] (fun n i => ∃ k : Nat, k ≤ 5 ∧ i = .int .i64 k ∧ n = .int .u32 (undoK k)) (fun _ i => 5 - (intOf i).toNat)
  case atStart => exact ⟨0, Nat.zero_le _, rfl, rfl⟩
  case round =>
    obtain ⟨k, hk, rfl, rfl⟩ := hrel
    by_cases hlt : k < 5
    · go_wp2
      go_round
      case rel => exact ⟨k + 1, by omega, by go_num, rfl⟩
      case measure => simp [intOf]; omega
    · have hkk : k = 5 := by omega
      subst hkk
      go_wp2
      go_ret
      exact ⟨rfl, rfl⟩

set_option maxHeartbeats 1000000 in
theorem stepped_any (a : Option Addr) (m cap : Nat) (l : List UInt8) (n : Nat) (w : World) (h : IsB w a m cap l) (hn : n < 4294967296) :
    Calls Try.prog 3 #[.slice a m cap, .int .u32 n] w fun e w' => e = .returned (.bool true) ∧ Below w.heap.size w w' := by
  obtain rfl := h.1
  by_cases hbig : 50000 < l.length
  · clear h
    go_enter Try.func3, Try.ntmps3
    go_wp2
    go_ret
    exact ⟨rfl, Below.refl _ _⟩
  have hm : l.length ≤ 50000 := by omega
  go_enter Try.func3, Try.ntmps3
  go_wp2_with fail
  refine (twin_any a _ cap l w (by omega) h).mono ?_; rintro e w1 ⟨rfl, hb1, hown⟩
  have ht1 := IsTwin.of hown
  have hin1 := ht1.isB (by unfold maxLen; omega)
  have h1 := h.below hb1
  clear hown
  go_wp2_with fail
  refine (of_any _ _ _ l w1 hin1).mono ?_; rintro e w2 ⟨rfl, hb2⟩
  have ht2 := ht1.below hb2
  have hin2 := hin1.below hb2
  have h2 := h1.below hb2
  go_wp2_with fail
  refine (rof_any _ _ _ l w2 h2).mono ?_; rintro e w' ⟨rfl, rfl⟩
  go_wp2_with fail
  refine (on_any _ _ _ _ l w2 hn hin2).mono ?_; rintro e w3 ⟨rfl, hb3⟩
  have ht3 := ht2.below hb3
  have h3 := h2.below hb3
  go_wp2_with fail
  refine (ron_any _ _ _ _ l w3 hn h3).mono ?_; rintro e w' ⟨rfl, rfl⟩
  go_wp2_with fail
  refine (left_any _ _ _ _ l w3 (by omega) h3 ht3).mono ?_; rintro e w4 ⟨rfl, hb4⟩
  go_wp2_with fail
  go_ret
  have s1 := hb1.size
  have s2 := hb2.size
  have s3 := hb3.size
  exact ⟨rfl, ((hb1.trans (hb2.mono s1)).trans (hb3.mono (by omega))).trans (hb4.mono (by omega))⟩

end Go.Proofs.Ytfbpbcaonlijnaa
