/- The statements' helper LeftInts; no condition but those typed. -/
import Derived.Test.YthadgnaaipdpaaaGreatDoorTwinI
namespace Go.Proofs.YthadgnaaipdpaaaGreatDoor
open Go.RowKit Go.ChangeShapes Go.WideShapes Go.ChangeAt
set_option linter.unusedVariables false

set_option maxHeartbeats 1000000 in
theorem leftI_some (g b off cap : Nat) (l : List Int) (w : World) (hlen : l.length ≤ 1000000000)
    (hg : ∀ i (h : i < l.length), w.cell? ⟨g, i, none⟩ = some (.int .i64 l[i])) (h77 : w.cell? ⟨g, l.length, none⟩ = some (.int .i64 77))
    (hc : ∀ i (h : i < l.length), w.cell? ⟨b, off + i, none⟩ = some (.int .i64 l[i])) :
    Calls Tryz.prog 28 #[.slice (some ⟨g, 0, none⟩) l.length (l.length + 1), .slice (some ⟨b, off, none⟩) l.length cap] w fun e w' => e = .returned (.bool true) ∧ Below w.heap.size w w' := by
  go_enter Tryz.func28, Tryz.ntmps28
  go_wp2
  go_loopw [5] (fun i wr => ∃ k n : Nat, k ≤ l.length ∧ i = .int .i64 k ∧ wr = w.drewN n) (fun i _ => l.length - (intOf i).toNat)
  case atStart => exact ⟨0, 0, Nat.zero_le _, rfl, rfl⟩
  case round =>
    obtain ⟨k, n, hk, rfl, rfl⟩ := hrel
    by_cases hlt : k < l.length
    · have h1 := hg k hlt
      have h2 := hc k hlt
      clear hg hc h77
      go_wp2
      go_quiet (fail)
      go_wp2
      go_roundw
      case rel => exact ⟨k + 1, _, by omega, by go_num, rfl⟩
      case measure => simp [intOf]; omega
    · have hkk : k = l.length := by omega
      subst hkk
      clear hg hc
      go_wp2
      go_ret
      exact ⟨rfl, below_drewN (Below.refl _ _) _⟩

set_option maxHeartbeats 1000000 in
theorem leftI_nil (a : Option Addr) (c g : Nat) (w : World) (h77 : w.cell? ⟨g, 0, none⟩ = some (.int .i64 77)) :
    Calls Tryz.prog 28 #[.slice (some ⟨g, 0, none⟩) 0 1, .slice a 0 c] w fun e w' => e = .returned (.bool true) ∧ Below w.heap.size w w' := by
  go_enter Tryz.func28, Tryz.ntmps28
  go_wp2
  go_loopw [5] (fun i wr => i = .int .i64 0 ∧ wr = w) (fun _ _ => 0)
  case atStart => exact ⟨rfl, rfl⟩
  case round =>
    obtain ⟨rfl, rfl⟩ := hrel
    go_wp2
    go_ret
    exact ⟨rfl, Below.refl _ _⟩

theorem leftI_any (g : Nat) (a : Option Addr) (m cap : Nat) (l : List Int) (w : World) (hm : l.length ≤ 1000000000) (h : IsI w a m cap l) (ht : IsTwinI w g l) :
    Calls Tryz.prog 28 #[.slice (some ⟨g, 0, none⟩) m (m + 1), .slice a m cap] w fun e w' => e = .returned (.bool true) ∧ Below w.heap.size w w' := by
  obtain ⟨rfl, h1, h2, ⟨rfl, _⟩ | ⟨b, off, rfl, hb, hc⟩⟩ := h
  · exact leftI_nil a cap g w ht.2.2
  · exact leftI_some g b off cap l w hm ht.2.1 ht.2.2 hc

end Go.Proofs.YthadgnaaipdpaaaGreatDoor
