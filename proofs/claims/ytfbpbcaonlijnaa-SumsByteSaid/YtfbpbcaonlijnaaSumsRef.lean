/- The reference of layer 2: what On and Of return. -/
import Derived.Test.YtfbpbcaonlijnaaSums
namespace Go.Proofs.Ytfbpbcaonlijnaa
open Go.RowKit Go.ChangeShapes Go.WideShapes Go.ChangeAt
set_option linter.unusedVariables false

theorem split_xor (s : Nat) (c : UInt8) : s - s % 256 + ((s % 256) ^^^ c.toNat) = s ^^^ c.toNat := by
  have hc := c.toNat_lt
  have h1 : (s % 256) ^^^ c.toNat < 256 := Nat.xor_lt_two_pow (n := 8) (Nat.mod_lt _ (by decide)) (by omega)
  have h2 : (s ^^^ c.toNat) % 2 ^ 8 = (s % 2 ^ 8) ^^^ (c.toNat % 2 ^ 8) := Nat.xor_mod_two_pow
  have h3 : (s ^^^ c.toNat) / 2 ^ 8 = (s / 2 ^ 8) ^^^ (c.toNat / 2 ^ 8) := Nat.xor_div_two_pow
  have h4 : c.toNat / 2 ^ 8 = 0 := by omega
  have h5 : c.toNat % 2 ^ 8 = c.toNat := by omega
  rw [h5] at h2
  rw [h4, Nat.xor_zero] at h3
  have h6 := Nat.div_add_mod (s ^^^ c.toNat) (2 ^ 8)
  rw [h2, h3] at h6
  have e : (2 : Nat) ^ 8 = 256 := rfl
  rw [e] at h6
  omega

set_option maxHeartbeats 1000000 in
theorem rstep_any (s : Nat) (c : UInt8) (w : World) (hs : s < 4294967296) :
    Calls Try.prog 17 #[.int .u32 s, .int .u8 c.toNat] w fun e w' => e = .returned (.int .u32 (stepN s c)) ∧ w = w' := by
  have h1 := u8_lt c
  have hs' : (s : Int) < 4294967296 := by omega
  have hsp := split_xor s c
  have hx0 : (s % 256) ^^^ c.toNat < 256 := Nat.xor_lt_two_pow (n := 8) (Nat.mod_lt _ (by decide)) (by have := c.toNat_lt; omega)
  have hx : bits BinOp.xor IntKind.u8 ((s : Int) % 256) (c.toNat : Int) = (((s % 256) ^^^ c.toNat : Nat) : Int) := by
    rw [← u8_xor_nat _ _ (Nat.mod_lt _ (by decide)) c.toNat_lt]; rfl
  revert hx hsp hx0
  generalize (s % 256) ^^^ c.toNat = x
  intro hsp hx0 hx
  have hfin : ((((s : Int) - s % 256 + x) * 16777619) % 4294967296 : Int) = (stepN s c : Int) := by
    unfold stepN; rw [← hsp]; omega
  have H : Hid _ := Lib.hid hfin
  clear hfin hsp
  have hx1 : (x : Int) < 256 := by omega
  go_enter Try.func17, Try.ntmps17
  go_wp2
  go_ret
  refine ⟨?_, rfl⟩
  rw [← H.out]
  show Ending.returned (.int _ _) = _
  congr 2

theorem ron_some (b off cap : Nat) (n : Nat) (l : List UInt8) (w : World) (hn : n < 4294967296) (hlen : l.length ≤ 9223372036854775807) (hb : b < w.heap.size)
    (hc : ∀ i (h : i < l.length), w.cell? ⟨b, off + i, none⟩ = some (.int .u8 l[i].toNat)) :
    Calls Try.prog 12 #[.int .u32 n, .slice (some ⟨b, off, none⟩) l.length cap] w fun e w' => e = .returned (.int .u32 (onN n l)) ∧ w = w' := by
  go_enter Try.func12, Try.ntmps12
  go_wp2
  go_loop [0, 5] (fun v i => ∃ k : Nat, k ≤ l.length ∧ i = .int .i64 k ∧ v = .int .u32 (onN n (l.take k))) (fun _ i => l.length - (intOf i).toNat)
  case atStart => exact ⟨0, Nat.zero_le _, rfl, rfl⟩
  case round =>
    obtain ⟨k, hk, rfl, rfl⟩ := hrel
    by_cases hlt : k < l.length
    · have hcell := hc k hlt
      have hstep := onN_take n l k hlt
      have hl := onN_lt n hn (l.take k)
      have H : Hid _ := Lib.hid hstep
      clear hstep hc
      go_wp2_with (go_at_call 17; refine (rstep_any _ _ _ hl).mono ?_; rintro e w' ⟨rfl, rfl⟩)
      go_round
      case rel => exact ⟨k + 1, by omega, by go_num, by rw [H.out]⟩
      case measure => simp [intOf]; omega
    · have hkk : k = l.length := by omega
      subst hkk
      go_wp2
      go_ret
      exact ⟨by simp, rfl⟩

theorem ron_nil (a : Option Addr) (c n : Nat) (w : World) :
    Calls Try.prog 12 #[.int .u32 n, .slice a 0 c] w fun e w' => e = .returned (.int .u32 n) ∧ w = w' := by
  go_enter Try.func12, Try.ntmps12
  go_wp2
  go_loop [0, 5] (fun v i => i = .int .i64 0 ∧ v = .int .u32 n) (fun _ _ => 0)
  case atStart => exact ⟨rfl, rfl⟩
  case round =>
    obtain ⟨rfl, rfl⟩ := hrel
    go_wp2
    go_ret
    exact ⟨rfl, rfl⟩

theorem ron_any (a : Option Addr) (m cap n : Nat) (l : List UInt8) (w : World) (hn : n < 4294967296) (h : IsB w a m cap l) :
    Calls Try.prog 12 #[.int .u32 n, .slice a m cap] w fun e w' => e = .returned (.int .u32 (onN n l)) ∧ w = w' := by
  obtain ⟨rfl, h1, h2, ⟨rfl, _⟩ | ⟨b, off, rfl, hb, hc⟩⟩ := h
  · exact ron_nil a cap n w
  · exact ron_some b off cap n l w hn (by unfold maxLen at h2; omega) hb hc

theorem rof_any (a : Option Addr) (m cap : Nat) (l : List UInt8) (w : World) (h : IsB w a m cap l) :
    Calls Try.prog 10 #[.slice a m cap] w fun e w' => e = .returned (.int .u32 (onN 2166136261 l)) ∧ w = w' := by
  go_enter Try.func10, Try.ntmps10
  go_wp2_with (go_at_call 12; refine (ron_any _ _ _ 2166136261 l _ (by decide) h).mono ?_; rintro e w' ⟨rfl, rfl⟩)
  go_ret
  exact ⟨rfl, rfl⟩

end Go.Proofs.Ytfbpbcaonlijnaa
