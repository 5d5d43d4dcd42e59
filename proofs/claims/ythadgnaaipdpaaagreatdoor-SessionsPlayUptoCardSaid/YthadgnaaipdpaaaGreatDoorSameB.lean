/- The statements helper SameBytes; conditions: those typed. -/
import Derived.Test.YthadgnaaipdpaaaGreatDoorBase
namespace Go.Proofs.YthadgnaaipdpaaaGreatDoor
open Go.RowKit
set_option linter.unusedVariables false

set_option maxHeartbeats 1000000 in
theorem sameB_some (a b ao bo c d : Nat) (l m : List UInt8) (w : World) (hlen : l.length ≤ 9223372036854775807) (hlm : l.length = m.length)
    (hl : ∀ i (h : i < l.length), w.cell? ⟨a, ao + i, none⟩ = some (.int .u8 l[i].toNat)) (hm : ∀ i (h : i < m.length), w.cell? ⟨b, bo + i, none⟩ = some (.int .u8 m[i].toNat)) :
    Calls Tryz.prog 17 #[.slice (some ⟨a, ao, none⟩) l.length c, .slice (some ⟨b, bo, none⟩) l.length d] w fun e w' => e = .returned (.bool (decide (l = m))) ∧ ∃ j, w' = w.drewN j := by
  go_enter Tryz.func17, Tryz.ntmps17
  go_wp2
  go_loopw [5] (fun i wr => ∃ k j : Nat, k ≤ l.length ∧ i = .int .i64 k ∧ wr = w.drewN j ∧ l.take k = m.take k) (fun i _ => l.length - (intOf i).toNat)
  case atStart => exact ⟨0, 0, Nat.zero_le _, rfl, rfl, rfl⟩
  case round =>
    obtain ⟨k, j, hk, rfl, rfl, hs⟩ := hrel
    have HS := Lib.hid hs
    clear hs
    have HLM := Lib.hid hlm
    clear hlm
    by_cases hlt : k < l.length
    · have hkm : k < m.length := by rw [← HLM.out]; exact hlt
      have h1 := hl k hlt
      have h2 := hm k hkm
      clear hl hm
      by_cases he : l[k] = m[k]
      · have HE := Lib.hid he
        have hn : ((l[k].toNat : Int) != (m[k].toNat : Int)) = false := by rw [he]; simp
        clear he
        go_wp2
        go_quiet (fail)
        go_wp2
        go_roundw
        case rel => exact ⟨k + 1, _, by omega, by go_num, rfl, by rw [List.take_succ_eq_append_getElem hlt, List.take_succ_eq_append_getElem hkm, HS.out, HE.out]⟩
        case measure => simp [intOf]; omega
      · have HE := Lib.hid he
        have hn : ((l[k].toNat : Int) != (m[k].toNat : Int)) = true := by rw [bne_iff_ne]; exact fun h => he (UInt8.toNat_inj.1 (by omega))
        clear he
        go_wp2
        go_quiet (fail)
        go_wp2
        go_ret
        refine ⟨?_, j + nq, by simp⟩
        have hne : decide (l = m) = false := decide_eq_false (fun h => HE.out (by subst h; rfl))
        rw [hne]; rfl
    · have hkk : k = l.length := by omega
      subst hkk
      clear hl hm
      have hlm' : l = m := by
        have h := HS.out
        rw [List.take_length, HLM.out, List.take_length] at h
        exact h
      have HQ := Lib.hid hlm'
      clear hlm'
      go_wp2
      go_ret
      refine ⟨?_, _, rfl⟩
      rw [decide_eq_true HQ.out]; rfl

theorem sameB_apart (a b : Option Addr) (n m c d : Nat) (w : World) (hnm : n ≠ m) :
    Calls Tryz.prog 17 #[.slice a n c, .slice b m d] w fun e w' => e = .returned (.bool false) ∧ ∃ j, w' = w.drewN j := by
  have hne : ((n : Int) != (m : Int)) = true := by rw [bne_iff_ne]; omega
  go_enter Tryz.func17, Tryz.ntmps17
  go_wp2
  go_ret
  exact ⟨rfl, 0, rfl⟩

theorem sameB_nil (a b : Option Addr) (c d : Nat) (w : World) :
    Calls Tryz.prog 17 #[.slice a 0 c, .slice b 0 d] w fun e w' => e = .returned (.bool true) ∧ ∃ j, w' = w.drewN j := by
  go_enter Tryz.func17, Tryz.ntmps17
  go_wp2
  go_loop [5] (fun i => i = .int .i64 0) (fun _ => 0)
  case atStart => rfl
  case round =>
    obtain rfl := hrel
    go_wp2
    go_ret
    exact ⟨rfl, 0, rfl⟩

theorem sameB_any (a b : Option Addr) (n m c d : Nat) (l k : List UInt8) (w : World) (hl : IsB w a n c l) (hk : IsB w b m d k) :
    Calls Tryz.prog 17 #[.slice a n c, .slice b m d] w fun e w' => e = .returned (.bool (decide (l = k))) ∧ ∃ j, w' = w.drewN j := by
  by_cases hnm : n = m
  · obtain ⟨rfl, h1, h2, h3⟩ := hl
    obtain ⟨rfl, k1, k2, k3⟩ := hk
    rcases h3 with ⟨rfl, _⟩ | ⟨b1, o1, rfl, hb1, hc1⟩
    · obtain rfl : k = [] := List.eq_nil_of_length_eq_zero hnm.symm
      exact sameB_nil a b c d w
    · rcases k3 with ⟨rfl, _⟩ | ⟨b2, o2, rfl, hb2, hc2⟩
      · obtain rfl : l = [] := List.eq_nil_of_length_eq_zero hnm
        exact sameB_nil _ b c d w
      · rw [← hnm]
        exact sameB_some b1 b2 o1 o2 c d l k w (by unfold maxLen at h2; omega) hnm hc1 hc2
  · have hne : decide (l = k) = false := decide_eq_false (fun h => hnm (by rw [hl.1, hk.1, h]))
    rw [hne]
    exact sameB_apart a b n m c d w hnm

end Go.Proofs.YthadgnaaipdpaaaGreatDoor
