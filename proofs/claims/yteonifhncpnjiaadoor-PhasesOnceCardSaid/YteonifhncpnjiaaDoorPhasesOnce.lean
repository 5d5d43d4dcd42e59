/- The statements PhasesOnce and PhasesOrder: what they return; conditions: those typed. -/
import Derived.Test.YteonifhncpnjiaaDoorPhasesLaw
namespace Go.Proofs.YteonifhncpnjiaaDoor
open Go.RowKit
set_option linter.unusedVariables false

theorem next_val (p a v : Nat) (w : World) (ha : a < 256) (hL : LaidNext w) (hv : nextN p a = v) :
    Calls Tryd.prog 8 #[.int .u8 p, .int .u8 a] w fun e w' => e = .returned (.int .u8 v) ∧ w = w' := hv ▸ next_any p a w ha hL

/-- The states of the loop: the phase, and the counts. -/
def OnceSt (p : Nat) (x0 x1 x2 x3 : Int) : Prop :=
  (p = 0 ∧ x0 = 1 ∧ x1 = 0 ∧ x2 = 0 ∧ x3 = 0) ∨ (p = 1 ∧ x0 = 1 ∧ x1 = 1 ∧ x2 = 0 ∧ x3 = 0) ∨ (p = 2 ∧ x0 = 1 ∧ x1 = 1 ∧ x2 = 1 ∧ x3 = 0) ∨ (p = 3 ∧ x0 = 1 ∧ x1 = 0 ∧ x2 = 0 ∧ x3 = 1) ∨ (p = 3 ∧ x0 = 1 ∧ x1 = 1 ∧ x2 = 0 ∧ x3 = 1)

set_option maxRecDepth 100000 in
set_option maxHeartbeats 4000000 in
theorem once_some (b off cap : Nat) (l : List UInt8) (w : World) (hm : l.length ≤ 200) (hb : b < w.heap.size)
    (hc : ∀ i (h : i < l.length), w.cell? ⟨b, off + i, none⟩ = some (.int .u8 l[i].toNat)) (hL : Laid w) :
    Calls Tryd.prog 3 #[.slice (some ⟨b, off, none⟩) l.length cap] w fun e w' => e = .returned (.bool true) ∧ Below w.heap.size w w' := by
  have hd : decide ((200 : Int) < (l.length : Int)) = false := by simp; omega
  have hb1 : ∀ o, Below w.heap.size w (w.alloc o) := fun o => bel_alloc2 _ _
  have hL1 : ∀ o, Laid (w.alloc o) := fun o => hL.below (hb1 o)
  have hc1 : ∀ o i (h : i < l.length), (w.alloc o).cell? ⟨b, off + i, none⟩ = some (.int .u8 l[i].toNat) := fun o i h => cell_below (hb1 o) (hc i h)
  have HL := Lib.hid hL1
  have HC := Lib.hid hc1
  clear hL1 hL hc hc1
  go_enter Tryd.func3, Tryd.ntmps3
  go_wp2
  go_loopw [3, 5] (fun v i wr => ∃ (k p : Nat) (x0 x1 x2 x3 : Int), k ≤ l.length ∧ i = .int .i64 k ∧ v = .int .u8 p ∧ wr = (w.alloc (.cells #[.int .i64 x0, .int .i64 x1, .int .i64 x2, .int .i64 x3] 25)) ∧ OnceSt p x0 x1 x2 x3) (fun _ i _ => l.length - (intOf i).toNat)
  case atStart => exact ⟨0, 0, 1, 0, 0, 0, Nat.zero_le _, rfl, rfl, rfl, .inl ⟨rfl, rfl, rfl, rfl, rfl⟩⟩
  case round =>
    obtain ⟨k, p, x0, x1, x2, x3, hk, rfl, rfl, rfl, hst⟩ := hrel
    by_cases hlt : k < l.length
    · have hcell := HC.out (.cells #[.int .i64 x0, .int .i64 x1, .int .i64 x2, .int .i64 x3] 25) k hlt
      have hcl := l[k].toNat_lt
      have hclI := u8_lt l[k]
      revert hcell hcl hclI
      generalize l[k].toNat = a
      intro hcell hcl hclI
      rcases hst with ⟨rfl, rfl, rfl, rfl, rfl⟩ | ⟨rfl, rfl, rfl, rfl, rfl⟩ | ⟨rfl, rfl, rfl, rfl, rfl⟩ | ⟨rfl, rfl, rfl, rfl, rfl⟩ | ⟨rfl, rfl, rfl, rfl, rfl⟩
      · by_cases h6 : a = 6
        · subst h6
          go_wp2_with fail
          refine (next_val 0 6 1 _ (by decide) (HL.out _).next (by decide)).mono ?_; rintro e w' ⟨rfl, rfl⟩
          go_wp2_with fail
          refine (may_val 0 6 0 0 0 _ (by decide) (by decide)).mono ?_; rintro e w' ⟨rfl, rfl⟩
          go_wp2_with fail
          go_roundw
          case rel => exact ⟨k + 1, 1, 1, 1, 0, 0, by omega, by go_num, rfl, rfl, .inr (.inl ⟨rfl, rfl, rfl, rfl, rfl⟩)⟩
          case measure => simp [intOf]; omega
        by_cases h8 : a = 8
        · subst h8
          go_wp2_with fail
          refine (next_val 0 8 3 _ (by decide) (HL.out _).next (by decide)).mono ?_; rintro e w' ⟨rfl, rfl⟩
          go_wp2_with fail
          refine (may_val 0 8 0 0 0 _ (by decide) (by decide)).mono ?_; rintro e w' ⟨rfl, rfl⟩
          go_wp2_with fail
          go_roundw
          case rel => exact ⟨k + 1, 3, 1, 0, 0, 1, by omega, by go_num, rfl, rfl, .inr (.inr (.inr (.inl ⟨rfl, rfl, rfl, rfl, rfl⟩)))⟩
          case measure => simp [intOf]; omega
        have hnv : nextN 0 a = 0 := by unfold nextN; rw [if_neg (by omega), if_neg (by omega), if_neg (by omega)]
        have HN := Lib.hid hnv
        clear hnv
        go_wp2_with fail
        refine (next_val 0 a 0 _ hcl (HL.out _).next HN.out).mono ?_; rintro e w' ⟨rfl, rfl⟩
        go_wp2_with fail
        go_roundw
        case rel => exact ⟨k + 1, 0, 1, 0, 0, 0, by omega, by go_num, rfl, rfl, .inl ⟨rfl, rfl, rfl, rfl, rfl⟩⟩
        case measure => simp [intOf]; omega
      · by_cases h7 : a = 7
        · subst h7
          go_wp2_with fail
          refine (next_val 1 7 2 _ (by decide) (HL.out _).next (by decide)).mono ?_; rintro e w' ⟨rfl, rfl⟩
          go_wp2_with fail
          refine (may_val 1 7 0 0 0 _ (by decide) (by decide)).mono ?_; rintro e w' ⟨rfl, rfl⟩
          go_wp2_with fail
          go_roundw
          case rel => exact ⟨k + 1, 2, 1, 1, 1, 0, by omega, by go_num, rfl, rfl, .inr (.inr (.inl ⟨rfl, rfl, rfl, rfl, rfl⟩))⟩
          case measure => simp [intOf]; omega
        by_cases h8 : a = 8
        · subst h8
          go_wp2_with fail
          refine (next_val 1 8 3 _ (by decide) (HL.out _).next (by decide)).mono ?_; rintro e w' ⟨rfl, rfl⟩
          go_wp2_with fail
          refine (may_val 1 8 0 0 0 _ (by decide) (by decide)).mono ?_; rintro e w' ⟨rfl, rfl⟩
          go_wp2_with fail
          go_roundw
          case rel => exact ⟨k + 1, 3, 1, 1, 0, 1, by omega, by go_num, rfl, rfl, .inr (.inr (.inr (.inr ⟨rfl, rfl, rfl, rfl, rfl⟩)))⟩
          case measure => simp [intOf]; omega
        have hnv : nextN 1 a = 1 := by unfold nextN; rw [if_neg (by omega), if_neg (by omega), if_neg (by omega)]
        have HN := Lib.hid hnv
        clear hnv
        go_wp2_with fail
        refine (next_val 1 a 1 _ hcl (HL.out _).next HN.out).mono ?_; rintro e w' ⟨rfl, rfl⟩
        go_wp2_with fail
        go_roundw
        case rel => exact ⟨k + 1, 1, 1, 1, 0, 0, by omega, by go_num, rfl, rfl, .inr (.inl ⟨rfl, rfl, rfl, rfl, rfl⟩)⟩
        case measure => simp [intOf]; omega
      · have hnv : nextN 2 a = 2 := by unfold nextN; rw [if_neg (by omega), if_neg (by omega), if_neg (by omega)]
        have HN := Lib.hid hnv
        clear hnv
        go_wp2_with fail
        refine (next_val 2 a 2 _ hcl (HL.out _).next HN.out).mono ?_; rintro e w' ⟨rfl, rfl⟩
        go_wp2_with fail
        go_roundw
        case rel => exact ⟨k + 1, 2, 1, 1, 1, 0, by omega, by go_num, rfl, rfl, .inr (.inr (.inl ⟨rfl, rfl, rfl, rfl, rfl⟩))⟩
        case measure => simp [intOf]; omega
      · have hnv : nextN 3 a = 3 := by unfold nextN; rw [if_neg (by omega), if_neg (by omega), if_neg (by omega)]
        have HN := Lib.hid hnv
        clear hnv
        go_wp2_with fail
        refine (next_val 3 a 3 _ hcl (HL.out _).next HN.out).mono ?_; rintro e w' ⟨rfl, rfl⟩
        go_wp2_with fail
        go_roundw
        case rel => exact ⟨k + 1, 3, 1, 0, 0, 1, by omega, by go_num, rfl, rfl, .inr (.inr (.inr (.inl ⟨rfl, rfl, rfl, rfl, rfl⟩)))⟩
        case measure => simp [intOf]; omega
      · have hnv : nextN 3 a = 3 := by unfold nextN; rw [if_neg (by omega), if_neg (by omega), if_neg (by omega)]
        have HN := Lib.hid hnv
        clear hnv
        go_wp2_with fail
        refine (next_val 3 a 3 _ hcl (HL.out _).next HN.out).mono ?_; rintro e w' ⟨rfl, rfl⟩
        go_wp2_with fail
        go_roundw
        case rel => exact ⟨k + 1, 3, 1, 1, 0, 1, by omega, by go_num, rfl, rfl, .inr (.inr (.inr (.inr ⟨rfl, rfl, rfl, rfl, rfl⟩)))⟩
        case measure => simp [intOf]; omega
    · have hkk : k = l.length := by omega
      subst hkk
      have hb2 := hb1 (.cells #[.int .i64 x0, .int .i64 x1, .int .i64 x2, .int .i64 x3] 25)
      clear hst
      go_wp2_with fail
      refine (lives_any _ (HL.out _)).mono ?_; rintro e w2 ⟨rfl, hb3⟩
      go_wp2_with fail
      go_ret
      exact ⟨rfl, hb2.trans (hb3.mono hb2.size)⟩

set_option maxRecDepth 100000 in
theorem once_nil (a : Option Addr) (cap : Nat) (w : World) (hL : Laid w) :
    Calls Tryd.prog 3 #[.slice a 0 cap] w fun e w' => e = .returned (.bool true) ∧ Below w.heap.size w w' := by
  have hb1 : ∀ o, Below w.heap.size w (w.alloc o) := fun o => bel_alloc2 _ _
  have hL1 : ∀ o, Laid (w.alloc o) := fun o => hL.below (hb1 o)
  have HL := Lib.hid hL1
  clear hL1 hL
  go_enter Tryd.func3, Tryd.ntmps3
  go_wp2
  go_loopw [3, 5] (fun _ i wr => i = .int .i64 0 ∧ wr = (w.alloc (.cells #[.int .i64 1, .int .i64 0, .int .i64 0, .int .i64 0] 25))) (fun _ _ _ => 0)
  case atStart => exact ⟨rfl, rfl⟩
  case round =>
    obtain ⟨rfl, rfl⟩ := hrel
    have hb2 := hb1 (.cells #[.int .i64 1, .int .i64 0, .int .i64 0, .int .i64 0] 25)
    go_wp2_with fail
    refine (lives_any _ (HL.out _)).mono ?_; rintro e w2 ⟨rfl, hb3⟩
    go_wp2_with fail
    go_ret
    exact ⟨rfl, hb2.trans (hb3.mono hb2.size)⟩

theorem once_big (a : Option Addr) (m cap : Nat) (w : World) (hm : 200 < m) (hL : Laid w) :
    Calls Tryd.prog 3 #[.slice a m cap] w fun e w' => e = .returned (.bool true) ∧ Below w.heap.size w w' := by
  go_enter Tryd.func3, Tryd.ntmps3
  go_wp2_with ((go_at_call 7; refine (lives_any _ hL).mono ?_; rintro e w' ⟨rfl, hb⟩))
  go_ret
  exact ⟨rfl, hb⟩

theorem once_any (a : Option Addr) (m cap : Nat) (l : List UInt8) (w : World) (h : IsB w a m cap l) (hL : Laid w) :
    Calls Tryd.prog 3 #[.slice a m cap] w fun e w' => e = .returned (.bool true) ∧ Below w.heap.size w w' := by
  by_cases hb : 200 < m
  · exact once_big a m cap w hb hL
  obtain ⟨rfl, h1, h2, ⟨rfl, _⟩ | ⟨b, off, rfl, hb', hc⟩⟩ := h
  · exact once_nil a cap w hL
  · exact once_some b off cap l w (by omega) hb' hc hL

end Go.Proofs.YteonifhncpnjiaaDoor
