/- The statement DisksLast: every case; conditions: those typed. -/
import Derived.Test.YtolnhjjggjbckaaDisksLast
namespace Go.Proofs.Ytolnhjjggjbckaa
open Go.RowKit
set_option linter.unusedVariables false

set_option maxRecDepth 100000 in
set_option maxHeartbeats 4000000 in
theorem dlast_long (a : Option Addr) (m c : Nat) (L : List (UInt8 × List UInt8)) (xn : UInt8) (ax : Option Addr) (mx cx : Nat) (xb : List UInt8) (w : World) (hL : IsWs w a m c L) (hx : IsB w ax mx cx xb) (hm : 100 < L.length) :
    Calls Try.prog 5 #[.slice a m c, .agg #[.int .u8 xn.toNat, .slice ax mx cx]] w fun e w' => e = .returned (.bool true) ∧ Below w.heap.size w w' := by
  obtain rfl := hL.1
  obtain rfl := hx.1
  have hlt1 : decide ((100 : Int) < (L.length : Int)) = true := by simp; omega
  go_enter Try.func5, Try.ntmps5
  go_wp2_with fail
  have st0 := ArgSt.start (xn := xn) hL hx 41
  have hb0 : Below w.heap.size w (w.alloc (.cells #[.int .u8 xn.toNat, .slice ax xb.length cx] 41)) := (Below.refl _ _).alloc (Nat.le_refl _) _
  generalize w.alloc (.cells #[.int .u8 xn.toNat, .slice ax xb.length cx] 41) = w0 at st0 hb0 ⊢
  clear hL hx
  have hz := hb0.size
  have hzl := st0.lt
  refine (new_good 4 w0 (by decide) (by decide)).mono ?_; rintro e w1 ⟨bd, bl, rfl, hb1, g1, g2, hd1⟩
  have hs1 := hb1.size
  go_wp2_with fail
  refine (alive_any w1).mono ?_; rintro e w2 ⟨rfl, hb2⟩
  have hs2 := hb2.size
  go_wp2_with fail
  refine (alive_any w2).mono ?_; rintro e w3 ⟨rfl, hb3⟩
  go_wp2_with fail
  go_ret
  exact ⟨rfl, ((hb0.trans (hb1.mono hz)).trans (hb2.mono (by omega))).trans (hb3.mono (by omega))⟩

set_option maxRecDepth 100000 in
set_option maxHeartbeats 4000000 in
theorem dlast_wide (a : Option Addr) (m c : Nat) (L : List (UInt8 × List UInt8)) (xn : UInt8) (ax : Option Addr) (mx cx : Nat) (xb : List UInt8) (w : World) (hL : IsWs w a m c L) (hx : IsB w ax mx cx xb) (hm : L.length ≤ 100) (hxb : 64 < xb.length) :
    Calls Try.prog 5 #[.slice a m c, .agg #[.int .u8 xn.toNat, .slice ax mx cx]] w fun e w' => e = .returned (.bool true) ∧ Below w.heap.size w w' := by
  obtain rfl := hL.1
  obtain rfl := hx.1
  have hlt1 : decide ((100 : Int) < (L.length : Int)) = false := by simp; omega
  have hlt2 : decide ((64 : Int) < (xb.length : Int)) = true := by simp; omega
  go_enter Try.func5, Try.ntmps5
  go_wp2_with fail
  have st0 := ArgSt.start (xn := xn) hL hx 41
  have hb0 : Below w.heap.size w (w.alloc (.cells #[.int .u8 xn.toNat, .slice ax xb.length cx] 41)) := (Below.refl _ _).alloc (Nat.le_refl _) _
  generalize w.alloc (.cells #[.int .u8 xn.toNat, .slice ax xb.length cx] 41) = w0 at st0 hb0 ⊢
  clear hL hx
  have hz := hb0.size
  have hzl := st0.lt
  refine (new_good 4 w0 (by decide) (by decide)).mono ?_; rintro e w1 ⟨bd, bl, rfl, hb1, g1, g2, hd1⟩
  have hs1 := hb1.size
  go_wp2_with fail
  refine (alive_any w1).mono ?_; rintro e w2 ⟨rfl, hb2⟩
  have hs2 := hb2.size
  have f3 := (st0.below (hb1.trans (hb2.mono hs1))).b
  go_wp2_with fail
  refine (alive_any w2).mono ?_; rintro e w3 ⟨rfl, hb3⟩
  go_wp2_with fail
  go_ret
  exact ⟨rfl, ((hb0.trans (hb1.mono hz)).trans (hb2.mono (by omega))).trans (hb3.mono (by omega))⟩

theorem dlast_any (a : Option Addr) (m c : Nat) (L : List (UInt8 × List UInt8)) (xn : UInt8) (ax : Option Addr) (mx cx : Nat) (xb : List UInt8) (w : World) (hL : IsWs w a m c L) (hx : IsB w ax mx cx xb) :
    Calls Try.prog 5 #[.slice a m c, .agg #[.int .u8 xn.toNat, .slice ax mx cx]] w fun e w' => e = .returned (.bool true) ∧ Below w.heap.size w w' := by
  by_cases hm : L.length ≤ 100
  · by_cases hxb : xb.length ≤ 64
    · exact dlast_main a m c L xn ax mx cx xb w hL hx hm hxb
    · exact dlast_wide a m c L xn ax mx cx xb w hL hx hm (by omega)
  · exact dlast_long a m c L xn ax mx cx xb w hL hx (by omega)

end Go.Proofs.Ytolnhjjggjbckaa
