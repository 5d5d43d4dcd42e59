/- The statement DisksFirst: every case; conditions: those typed. -/
import Derived.Test.YtolnhjjggjbckaaDisksFirst
namespace Go.Proofs.Ytolnhjjggjbckaa
open Go.RowKit
set_option linter.unusedVariables false

set_option maxRecDepth 100000 in
set_option maxHeartbeats 4000000 in
theorem dfirst_long (a : Option Addr) (m c : Nat) (L : List (UInt8 × List UInt8)) (fz : UInt8) (w : World) (hL : IsWs w a m c L) (hm : 100 < L.length) :
    Calls Try.prog 4 #[.slice a m c, .int .u8 fz.toNat] w fun e w' => e = .returned (.bool true) ∧ Below w.heap.size w w' := by
  obtain rfl := hL.1
  have hlt1 : decide ((100 : Int) < (L.length : Int)) = true := by simp; omega
  clear hL
  go_enter Try.func4, Try.ntmps4
  go_wp2_with fail
  refine (alive_any w).mono ?_; rintro e w0 ⟨rfl, hb0⟩
  have hs0 := hb0.size
  go_wp2_with fail
  refine (alive_any w0).mono ?_; rintro e w1 ⟨rfl, hb1⟩
  go_wp2_with fail
  go_ret
  exact ⟨rfl, hb0.trans (hb1.mono hs0)⟩

theorem dfirst_any (a : Option Addr) (m c : Nat) (L : List (UInt8 × List UInt8)) (fz : UInt8) (w : World) (hL : IsWs w a m c L) :
    Calls Try.prog 4 #[.slice a m c, .int .u8 fz.toNat] w fun e w' => e = .returned (.bool true) ∧ Below w.heap.size w w' := by
  by_cases hm : L.length ≤ 100
  · exact dfirst_main a m c L fz w hL hm
  · exact dfirst_long a m c L fz w hL (by omega)

end Go.Proofs.Ytolnhjjggjbckaa
