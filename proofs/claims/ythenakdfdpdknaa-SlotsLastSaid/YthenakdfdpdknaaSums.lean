/- The package sums: what On and Of return. -/
import Derived.Test.YthenakdfdpdknaaBase
namespace Go.Proofs.Ythenakdfdpdknaa
open Go.RowKit Go.ChangeShapes Go.WideShapes Go.ChangeAt
set_option linter.unusedVariables false

def stepN (s : Nat) (c : UInt8) : Nat := (s ^^^ c.toNat) * 16777619 % 4294967296

def onN (s : Nat) (l : List UInt8) : Nat := l.foldl stepN s

theorem stepN_lt (s : Nat) (c : UInt8) : stepN s c < 4294967296 := Nat.mod_lt _ (by decide)

theorem step_eq (s : Nat) (c : UInt8) (hs : s < 4294967296) :
    bits BinOp.xor IntKind.u32 (s : Int) (c.toNat : Int) * 16777619 % 4294967296 = (stepN s c : Int) := by
  have := c.toNat_lt
  rw [u32_xor_nat s c.toNat hs (by omega)]
  unfold stepN; omega

set_option maxHeartbeats 400000 in
theorem step_any (b : Nat) (s : Nat) (c : UInt8) (w : World) (hs : s < 4294967296) (hcell : w.cell? ⟨b, 0, none⟩ = some (.int .u32 s)) (hfr : w.frozen? ⟨b, 0, none⟩ = false) :
    Calls Try.prog 34 #[.pointer (some ⟨b, 0, none⟩), .int .u8 c.toNat] w fun e w' => e = .returned (.tuple #[]) ∧ w.setCell ⟨b, 0, none⟩ (.int .u32 (stepN s c)) = w' := by
  have h1 := u8_lt c
  have H : Hid _ := Lib.hid (step_eq s c hs)
  go_enter Try.func34, Try.ntmps34
  go_wp2
  go_end0
  exact ⟨rfl, by rw [H.out]⟩

theorem onN_take (n : Nat) (l : List UInt8) (k : Nat) (h : k < l.length) : onN n (l.take (k + 1)) = stepN (onN n (l.take k)) l[k] := by
  unfold onN
  rw [List.take_succ_eq_append_getElem h, List.foldl_append, List.foldl_cons, List.foldl_nil]

theorem onN_lt (n : Nat) (hn : n < 4294967296) (l : List UInt8) : onN n l < 4294967296 := by
  unfold onN
  induction l generalizing n with
  | nil => exact hn
  | cons c l ih => exact ih _ (stepN_lt _ _)

set_option maxHeartbeats 400000 in
theorem on_some (b off cap : Nat) (n : Nat) (l : List UInt8) (w : World) (hn : n < 4294967296) (hlen : l.length ≤ 9223372036854775807) (hb : b < w.heap.size)
    (hc : ∀ i (h : i < l.length), w.cell? ⟨b, off + i, none⟩ = some (.int .u8 l[i].toNat)) :
    Calls Try.prog 29 #[.int .u32 n, .slice (some ⟨b, off, none⟩) l.length cap] w fun e w' => e = .returned (.int .u32 (onN n l)) ∧ Below w.heap.size w w' := by
  go_enter Try.func29, Try.ntmps29
  go_wp2
  go_loopw [12] (fun i wr => ∃ k : Nat, k ≤ l.length ∧ i = .int .i64 k ∧ wr = w.alloc (Obj.cells #[.int .u32 (onN n (l.take k))] 72)) (fun i _ => l.length - (intOf i).toNat)
  case atStart => exact ⟨0, Nat.zero_le _, rfl, rfl⟩
  case round =>
    obtain ⟨k, hk, rfl, rfl⟩ := hrel
    by_cases hlt : k < l.length
    · have hcell := hc k hlt
      have hstep := onN_take n l k hlt
      have hl := onN_lt n hn (l.take k)
      have H : Hid _ := Lib.hid hstep
      clear hstep hc
      go_wp2_with (go_at_call 34; refine (step_any _ _ _ _ hl (by simp [go_sem]) (by simp [go_sem])).mono ?_; rintro e w' ⟨rfl, rfl⟩)
      go_roundw
      case rel => exact ⟨k + 1, by omega, by go_num, by rw [H.out]⟩
      case measure => simp [intOf]; omega
    · have hkk : k = l.length := by omega
      subst hkk
      go_wp2
      go_ret
      refine ⟨?_, (Below.refl _ _).alloc (Nat.le_refl _) _⟩
      simp

theorem on_nil (a : Option Addr) (c n : Nat) (w : World) (hn : n < 4294967296) :
    Calls Try.prog 29 #[.int .u32 n, .slice a 0 c] w fun e w' => e = .returned (.int .u32 n) ∧ Below w.heap.size w w' := by
  go_enter Try.func29, Try.ntmps29
  go_wp2
  go_loopw [12] (fun i wr => i = .int .i64 0 ∧ wr = w.alloc (Obj.cells #[.int .u32 n] 72)) (fun _ _ => 0)
  case atStart => exact ⟨rfl, rfl⟩
  case round =>
    obtain ⟨rfl, rfl⟩ := hrel
    go_wp2
    go_ret
    exact ⟨rfl, (Below.refl _ _).alloc (Nat.le_refl _) _⟩

theorem on_any (a : Option Addr) (m cap n : Nat) (l : List UInt8) (w : World) (hn : n < 4294967296) (h : IsB w a m cap l) :
    Calls Try.prog 29 #[.int .u32 n, .slice a m cap] w fun e w' => e = .returned (.int .u32 (onN n l)) ∧ Below w.heap.size w w' := by
  obtain ⟨rfl, h1, h2, ⟨rfl, _⟩ | ⟨b, off, rfl, hb, hc⟩⟩ := h
  · exact on_nil a cap n w hn
  · exact on_some b off cap n l w hn (by unfold maxLen at h2; omega) hb hc

theorem of_any (a : Option Addr) (m cap : Nat) (l : List UInt8) (w : World) (h : IsB w a m cap l) :
    Calls Try.prog 30 #[.slice a m cap] w fun e w' => e = .returned (.int .u32 (onN 2166136261 l)) ∧ Below w.heap.size w w' := by
  go_enter Try.func30, Try.ntmps30
  go_wp2_with (go_at_call 29; refine (on_any _ _ _ 2166136261 l _ (by decide) h).mono ?_; rintro e w' ⟨rfl, hb⟩)
  go_ret
  exact ⟨rfl, hb⟩

end Go.Proofs.Ythenakdfdpdknaa
