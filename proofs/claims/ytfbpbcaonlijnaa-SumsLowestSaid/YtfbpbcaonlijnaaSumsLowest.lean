/- The statement SumsLowest: what it returns; no condition but those typed. -/
import Derived.Test.YtfbpbcaonlijnaaSumsBack
namespace Go.Proofs.Ytfbpbcaonlijnaa
open Go.RowKit Go.ChangeShapes Go.WideShapes Go.ChangeAt
set_option linter.unusedVariables false

/-- the mask of j bits. -/
def mkN (j : Nat) : Nat := 2 ^ j - 1
theorem pow_le_31 (j : Nat) (h : j < 32) : 2 ^ j ≤ 2147483648 := by
  have : (2147483648 : Nat) = 2 ^ 31 := rfl
  rw [this]; exact Nat.pow_le_pow_right (by decide) (by omega)
theorem mkN_lt (j : Nat) (h : j < 32) : mkN j < 4294967296 := by have := pow_le_31 j h; unfold mkN; omega
theorem and_mk (a j : Nat) (ha : a < 4294967296) (hj : j < 32) : bits BinOp.and IntKind.u32 (a : Int) (mkN j : Int) = ((a % 2 ^ j : Nat) : Int) := by
  rw [u32_and_nat a _ ha (mkN_lt j hj)]
  unfold mkN
  rw [Nat.and_two_pow_sub_one_eq_mod]
theorem mask_eq (j : Nat) (h : j < 32) : ((2 : Int) ^ j % 4294967296 - 1) % 4294967296 = (mkN j : Int) := by
  have h1 := pow_le_31 j h
  have h2 := Nat.two_pow_pos j
  have e : (2 : Int) ^ j = ((2 ^ j : Nat) : Int) := by simp
  rw [e]
  unfold mkN
  omega
theorem mask_eq2 (j : Nat) (h : j < 32) : ((2 : Int) ^ j - 1) % 4294967296 = (mkN j : Int) := by
  have h1 := pow_le_31 j h
  have h2 := Nat.two_pow_pos j
  have e : (2 : Int) ^ j = ((2 ^ j : Nat) : Int) := by simp
  rw [e]
  unfold mkN
  omega
/-- the lowest bits, a step. -/
def lowF (j s : Nat) (c : UInt8) : Nat := G.low 16777619 j s c
theorem low_eq (j s : Nat) (c : UInt8) (hj : j < 32) (hs : s < 4294967296) :
    bits BinOp.and IntKind.u32 (bits BinOp.xor IntKind.u32 (s : Int) (bits BinOp.and IntKind.u32 (c.toNat : Int) (mkN j : Int)) * bits BinOp.and IntKind.u32 16777619 (mkN j : Int) % 4294967296) (mkN j : Int) = (lowF j s c : Int) := by
  have hc := c.toNat_lt
  have hp := pow_le_31 j hj
  have hp2 := Nat.two_pow_pos j
  rw [and_mk c.toNat j (by omega) hj]
  have e1 : bits BinOp.and IntKind.u32 16777619 (mkN j : Int) = ((16777619 % 2 ^ j : Nat) : Int) := and_mk 16777619 j (by decide) hj
  have hm1 : c.toNat % 2 ^ j < 4294967296 := by have := Nat.mod_lt c.toNat hp2; omega
  rw [e1, u32_xor_nat s _ hs hm1]
  have e2 : (((s ^^^ (c.toNat % 2 ^ j) : Nat) : Int) * ((16777619 % 2 ^ j : Nat) : Int) % 4294967296) = (((s ^^^ (c.toNat % 2 ^ j)) * (16777619 % 2 ^ j) % 4294967296 : Nat) : Int) := by simp
  rw [e2, and_mk _ j (Nat.mod_lt _ (by decide)) hj]
  unfold lowF G.low
  rw [Nat.mod_mod_of_dvd]
  have : (4294967296 : Nat) = 2 ^ 32 := rfl
  rw [this]; exact Nat.pow_dvd_pow 2 (by omega)
def lowL (j s : Nat) (l : List UInt8) : Nat := l.foldl (lowF j) s
theorem lowL_on (j n : Nat) (l : List UInt8) (hj : j < 32) : onN n l % 2 ^ j = lowL j (n % 2 ^ j) l := by
  rw [onN_G]
  exact G.low_fold j (by have : (4294967296 : Nat) = 2 ^ 32 := rfl
                         rw [this]; exact Nat.pow_dvd_pow 2 (by omega)) l n
theorem lowF_lt (j s : Nat) (c : UInt8) (hj : j < 32) : lowF j s c < 4294967296 := by
  have hp := pow_le_31 j hj
  have hp2 := Nat.two_pow_pos j
  unfold lowF G.low
  have := Nat.mod_lt ((s ^^^ (c.toNat % 2 ^ j)) * (16777619 % 2 ^ j)) hp2
  omega
theorem lowL_lt (j s : Nat) (l : List UInt8) (hj : j < 32) (hs : s < 4294967296) : lowL j s l < 4294967296 := by
  unfold lowL
  induction l generalizing s with
  | nil => exact hs
  | cons c l ih => exact ih _ (lowF_lt j s c hj)
theorem lowL_take (j s : Nat) (l : List UInt8) (k : Nat) (h : k < l.length) : lowL j s (l.take (k + 1)) = lowF j (lowL j s (l.take k)) l[k] := by
  unfold lowL
  rw [List.take_succ_eq_append_getElem h, List.foldl_append, List.foldl_cons, List.foldl_nil]

set_option maxHeartbeats 1000000 in
theorem slowest_some (b off cap n m : Nat) (l : List UInt8) (w : World) (hn : n < 4294967296) (hm : l.length ≤ 50000) (hbits : m < 256) (hIsB : IsB w (some ⟨b, off, none⟩) l.length cap l) (hb : b < w.heap.size)
    (hc : ∀ i (h : i < l.length), w.cell? ⟨b, off + i, none⟩ = some (.int .u8 l[i].toNat)) :
    Calls Try.prog 6 #[.slice (some ⟨b, off, none⟩) l.length cap, .int .u32 n, .int .u8 m] w fun e w' => e = .returned (.bool true) ∧ Below w.heap.size w w' := by
  have hd : decide ((50000 : Int) < (l.length : Int)) = false := by simp; omega
  have hj : m % 32 < 32 := Nat.mod_lt _ (by decide)
  have e7 := mask_eq (m % 32) hj
  have e8 := mask_eq2 (m % 32) hj
  have e9 := and_mk n (m % 32) hn hj
  have H7 : Hid _ := Lib.hid e7
  have H8 : Hid _ := Lib.hid e8
  have H9 : Hid _ := Lib.hid e9
  clear e7 e8 e9
  go_enter Try.func6, Try.ntmps6
  go_wp2
  rw [H7.out, H8.out, H9.out]
  revert hj
  generalize m % 32 = j
  intro hj
  clear H7 H8 H9
  have hs0 : n % 2 ^ j < 4294967296 := Nat.lt_of_le_of_lt (Nat.mod_le _ _) hn
  go_loop [8, 9] (fun v i => ∃ k : Nat, k ≤ l.length ∧ i = .int .i64 k ∧ v = .int .u32 (lowL j (n % 2 ^ j) (l.take k))) (fun _ i => l.length - (intOf i).toNat)
  case atStart => exact ⟨0, Nat.zero_le _, rfl, rfl⟩
  case round =>
    obtain ⟨k, hk, rfl, rfl⟩ := hrel
    by_cases hlt : k < l.length
    · have hcell := hc k hlt
      have H1 : Hid _ := Lib.hid (low_eq j (lowL j (n % 2 ^ j) (l.take k)) l[k] hj (lowL_lt j _ _ hj hs0))
      have H2 : Hid _ := Lib.hid (lowL_take j (n % 2 ^ j) l k hlt)
      have hx := u8_lt l[k]
      clear hc
      go_wp2
      rw [H1.out]
      go_round
      case rel => exact ⟨k + 1, by omega, by go_num, by rw [H2.out]⟩
      case measure => simp [intOf]; omega
    · have hkk : k = l.length := by omega
      subst hkk
      clear hc
      have e1 := lowL_on j n l hj
      have e2 := and_mk (onN n l) j (onN_lt n hn l) hj
      rw [e1] at e2
      have H2 : Hid _ := Lib.hid e2
      clear e1 e2
      go_wp2_with fail
      refine (alive_any _).mono ?_; rintro e w1 ⟨rfl, hb1⟩
      have hIsB1 := hIsB.below hb1
      go_wp2_with fail
      refine (on_any _ _ _ n l _ hn hIsB1).mono ?_; rintro e w2 ⟨rfl, hb2⟩
      have e2 := H2.out
      go_wp2_with fail
      go_ret
      exact ⟨rfl, hb1.trans (hb2.mono hb1.size)⟩

set_option maxHeartbeats 1000000 in
theorem slowest_nil (a : Option Addr) (cap n m : Nat) (w : World) (hn : n < 4294967296) (hbits : m < 256) (hIsB : IsB w a 0 cap []) :
    Calls Try.prog 6 #[.slice a 0 cap, .int .u32 n, .int .u8 m] w fun e w' => e = .returned (.bool true) ∧ Below w.heap.size w w' := by
  have hj : m % 32 < 32 := Nat.mod_lt _ (by decide)
  have e7 := mask_eq (m % 32) hj
  have e8 := mask_eq2 (m % 32) hj
  have e9 := and_mk n (m % 32) hn hj
  have H7 : Hid _ := Lib.hid e7
  have H8 : Hid _ := Lib.hid e8
  have H9 : Hid _ := Lib.hid e9
  clear e7 e8 e9
  go_enter Try.func6, Try.ntmps6
  go_wp2
  rw [H7.out, H8.out, H9.out]
  go_loop [8, 9] (fun v i => i = .int .i64 0 ∧ v = .int .u32 (n % 2 ^ (m % 32) : Nat)) (fun _ _ => 0)
  case atStart => exact ⟨rfl, rfl⟩
  case round =>
    obtain ⟨rfl, rfl⟩ := hrel
    go_wp2_with fail
    refine (alive_any _).mono ?_; rintro e w1 ⟨rfl, hb1⟩
    have hIsB1 := hIsB.below hb1
    go_wp2_with fail
    refine (on_val _ _ _ n n [] _ hn hIsB1 rfl).mono ?_; rintro e w2 ⟨rfl, hb2⟩
    have e9 := H9.out
    go_wp2_with fail
    go_ret
    exact ⟨rfl, hb1.trans (hb2.mono hb1.size)⟩

theorem slowest_big (a : Option Addr) (m cap n k : Nat) (w : World) (hm : 50000 < m) :
    Calls Try.prog 6 #[.slice a m cap, .int .u32 n, .int .u8 k] w fun e w' => e = .returned (.bool true) ∧ Below w.heap.size w w' := by
  go_enter Try.func6, Try.ntmps6
  go_wp2_with ((go_at_call 14; refine (alive_any _).mono ?_; rintro e w' ⟨rfl, hb⟩))
  go_ret
  exact ⟨rfl, hb⟩

theorem slowest_any (a : Option Addr) (m cap : Nat) (l : List UInt8) (n k : Nat) (w : World) (h : IsB w a m cap l) (hn : n < 4294967296) (hk : k < 256) :
    Calls Try.prog 6 #[.slice a m cap, .int .u32 n, .int .u8 k] w fun e w' => e = .returned (.bool true) ∧ Below w.heap.size w w' := by
  by_cases hb : 50000 < m
  · exact slowest_big a m cap n k w hb
  have h0 := h
  obtain ⟨rfl, h1, h2, ⟨rfl, _⟩ | ⟨b, off, rfl, hb', hc⟩⟩ := h
  · exact slowest_nil a cap n k w hn hk h0
  · exact slowest_some b off cap n k l w hn (by omega) hk h0 hb' hc

end Go.Proofs.Ytfbpbcaonlijnaa
