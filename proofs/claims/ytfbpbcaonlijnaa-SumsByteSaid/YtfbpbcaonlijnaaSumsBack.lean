/- The statements SumsBack and SumsLowest: what they return; no condition but those typed. -/
import Derived.Test.YtfbpbcaonlijnaaSumsLaw
import Derived.Test.YtfbpbcaonlijnaaSumsMath
namespace Go.Proofs.Ytfbpbcaonlijnaa
open Go.RowKit Go.ChangeShapes Go.WideShapes Go.ChangeAt
set_option linter.unusedVariables false

/-- back from a sum by bytes. -/
def bkL (s : Nat) (l : List UInt8) : Nat := G.backL 4294967296 899433627 s l
theorem back_eq (s : Nat) (c : UInt8) (l : List UInt8) (i : Nat) (hi : i < l.length) : bits BinOp.xor IntKind.u32 ((bkL s (l.drop (i + 1)) : Nat) * 899433627 % 4294967296 : Int) (l[i].toNat : Int) = (bkL s (l.drop i) : Int) := by
  have := l[i].toNat_lt
  have e : ((bkL s (l.drop (i + 1)) : Nat) * 899433627 % 4294967296 : Int) = ((bkL s (l.drop (i + 1)) * 899433627 % 4294967296 : Nat) : Int) := by omega
  rw [e, u32_xor_nat _ _ (Nat.mod_lt _ (by decide)) (by omega)]
  unfold bkL
  rw [G.backL_drop s l i hi]
  rfl
theorem bkL_lt (s : Nat) (l : List UInt8) (h : s < 4294967296) : bkL s l < 4294967296 := G.backL_lt okN s l h
theorem bkL_on (n : Nat) (l : List UInt8) (h : n < 4294967296) : bkL (onN n l) l = n := by unfold bkL; rw [onN_G]; exact G.backL_on okN l n h
theorem on_bkL (n : Nat) (l : List UInt8) (h : n < 4294967296) : onN (bkL n l) l = n := by unfold bkL; rw [onN_G]; exact G.on_backL okN l n h
theorem bkL_iff (l : List UInt8) (n s : Nat) (hn : n < 4294967296) (hs : s < 4294967296) : bkL s l = n ↔ onN n l = s := by unfold bkL; rw [onN_G]; exact G.backL_iff okN l n s hn hs

set_option maxHeartbeats 1000000 in
theorem sback_some (b off cap n : Nat) (l : List UInt8) (w : World) (hn : n < 4294967296) (hm : l.length ≤ 20000) (hIsB : IsB w (some ⟨b, off, none⟩) l.length cap l) (hb : b < w.heap.size)
    (hc : ∀ i (h : i < l.length), w.cell? ⟨b, off + i, none⟩ = some (.int .u8 l[i].toNat)) :
    Calls Try.prog 4 #[.slice (some ⟨b, off, none⟩) l.length cap, .int .u32 n] w fun e w' => e = .returned (.bool true) ∧ Below w.heap.size w w' := by
  have hd : decide ((20000 : Int) < (l.length : Int)) = false := by simp; omega
  go_enter Try.func4, Try.ntmps4
  go_wp2_with (first | (go_at_call 15; refine (undo_any _).mono ?_; rintro e w' ⟨rfl, rfl⟩) | (go_at_call 9; refine (of_any _ _ _ l _ hIsB).mono ?_; rintro e w1 ⟨rfl, hb1⟩))
  have hc1 : ∀ i (h : i < l.length), w1.cell? ⟨b, off + i, none⟩ = some (.int .u8 l[i].toNat) := fun i h => (hb1.cell (p := ⟨b, off + i, none⟩) hb).trans (hc i h)
  have hIsB1 := hIsB.below hb1
  clear hc hIsB
  go_loop [6, 7, 8] (fun v u i => ∃ j : Nat, j ≤ l.length ∧ i = .int .i64 ((j : Int) - 1) ∧ v = .int .u32 (bkL n (l.drop j)) ∧ u = .int .u32 (bkL (onN 2166136261 l) (l.drop j))) (fun _ _ i => (intOf i + 1).toNat)
  case atStart => exact ⟨l.length, Nat.le_refl _, rfl, by rw [List.drop_length]; rfl, by rw [List.drop_length]; rfl⟩
  case round =>
    obtain ⟨j, hj, rfl, rfl, rfl⟩ := hrel
    rcases j with _ | k
    · clear hc1
      have e1 := bkL_on 2166136261 l (by decide)
      have e2 := on_bkL n l hn
      have e3 := bkL_iff l 2166136261 n (by decide) hn
      have hlt := bkL_lt n l hn
      rw [List.drop_zero, e1]
      revert e2 e3 hlt
      generalize bkL n l = z
      intro e2 e3 hlt
      have H2 : Hid _ := Lib.hid e2
      have H3 : Hid _ := Lib.hid e3
      clear e1 e2 e3
      rw [show (((0 : Nat) : Int) - 1) = -1 from rfl]
      go_wp2_with fail
      refine (alive_any _).mono ?_; rintro e w2 ⟨rfl, hb2⟩
      have hIsB2 := hIsB1.below hb2
      go_wp2_with fail
      refine (on_any _ _ _ z l _ hlt hIsB2).mono ?_; rintro e w3 ⟨rfl, hb3⟩
      have hIsB3 := hIsB2.below hb3
      rw [H2.out]
      go_wp2_with fail
      refine (of_any _ _ _ l _ hIsB3).mono ?_; rintro e w4 ⟨rfl, hb4⟩
      have e5 : (((z : Int) == 2166136261) == ((onN 2166136261 l : Int) == n)) = true := by
        have h3 := H3.out
        rw [beq_iff_eq, Bool.eq_iff_iff, beq_iff_eq, beq_iff_eq]
        constructor
        · intro h; have := h3.1 (by omega); omega
        · intro h; have := h3.2 (by omega); omega
      go_wp2_with fail
      go_ret
      have s1 := hb1.size
      have s2 := hb2.size
      have s3 := hb3.size
      exact ⟨rfl, ((hb1.trans (hb2.mono s1)).trans (hb3.mono (by omega))).trans (hb4.mono (by omega))⟩
    · have hk : k < l.length := by omega
      have hcell := hc1 k hk
      have H1 : Hid _ := Lib.hid (back_eq n l[k] l k hk)
      have H2 : Hid _ := Lib.hid (back_eq (onN 2166136261 l) l[k] l k hk)
      have hx := u8_lt l[k]
      clear hc1
      rw [show (((k + 1 : Nat) : Int) - 1) = k from by omega]
      go_wp2
      rw [H1.out, H2.out]
      go_round
      case rel => exact ⟨k, by omega, by go_num, rfl, rfl⟩
      case measure => simp [intOf]

set_option maxHeartbeats 1000000 in
theorem sback_nil (a : Option Addr) (cap n : Nat) (w : World) (hn : n < 4294967296) (hIsB : IsB w a 0 cap []) :
    Calls Try.prog 4 #[.slice a 0 cap, .int .u32 n] w fun e w' => e = .returned (.bool true) ∧ Below w.heap.size w w' := by
  go_enter Try.func4, Try.ntmps4
  go_wp2_with (first | (go_at_call 15; refine (undo_any _).mono ?_; rintro e w' ⟨rfl, rfl⟩) | (go_at_call 9; refine (of_val _ _ _ _ [] _ hIsB alive_0).mono ?_; rintro e w1 ⟨rfl, hb1⟩))
  have hIsB1 := hIsB.below hb1
  clear hIsB
  go_loop [6, 7, 8] (fun v u i => i = .int .i64 (-1) ∧ v = .int .u32 n ∧ u = .int .u32 2166136261) (fun _ _ _ => 0)
  case atStart => exact ⟨rfl, rfl, rfl⟩
  case round =>
    obtain ⟨rfl, rfl, rfl⟩ := hrel
    go_wp2_with fail
    refine (alive_any _).mono ?_; rintro e w2 ⟨rfl, hb2⟩
    have hIsB2 := hIsB1.below hb2
    go_wp2_with fail
    refine (on_val _ _ _ n n [] _ hn hIsB2 rfl).mono ?_; rintro e w3 ⟨rfl, hb3⟩
    have hIsB3 := hIsB2.below hb3
    go_wp2_with fail
    refine (of_val _ _ _ _ [] _ hIsB3 alive_0).mono ?_; rintro e w4 ⟨rfl, hb4⟩
    have e5 : (((n : Int) == 2166136261) == ((2166136261 : Int) == n)) = true := by
      rw [beq_iff_eq, Bool.eq_iff_iff, beq_iff_eq, beq_iff_eq]
      constructor <;> intro h <;> omega
    go_wp2_with fail
    go_ret
    have s1 := hb1.size
    have s2 := hb2.size
    have s3 := hb3.size
    exact ⟨rfl, ((hb1.trans (hb2.mono s1)).trans (hb3.mono (by omega))).trans (hb4.mono (by omega))⟩

theorem sback_big (a : Option Addr) (m cap n : Nat) (w : World) (hm : 20000 < m) :
    Calls Try.prog 4 #[.slice a m cap, .int .u32 n] w fun e w' => e = .returned (.bool true) ∧ Below w.heap.size w w' := by
  go_enter Try.func4, Try.ntmps4
  go_wp2_with ((go_at_call 14; refine (alive_any _).mono ?_; rintro e w' ⟨rfl, hb⟩))
  go_ret
  exact ⟨rfl, hb⟩

theorem sback_any (a : Option Addr) (m cap : Nat) (l : List UInt8) (n : Nat) (w : World) (h : IsB w a m cap l) (hn : n < 4294967296) :
    Calls Try.prog 4 #[.slice a m cap, .int .u32 n] w fun e w' => e = .returned (.bool true) ∧ Below w.heap.size w w' := by
  by_cases hb : 20000 < m
  · exact sback_big a m cap n w hb
  have h0 := h
  obtain ⟨rfl, h1, h2, ⟨rfl, _⟩ | ⟨b, off, rfl, hb', hc⟩⟩ := h
  · exact sback_nil a cap n w hn h0
  · exact sback_some b off cap n l w hn (by omega) h0 hb' hc

end Go.Proofs.Ytfbpbcaonlijnaa
