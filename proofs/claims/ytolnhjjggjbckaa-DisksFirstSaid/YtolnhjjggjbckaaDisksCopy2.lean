/- The statement DisksCopy: every case; conditions: those typed. -/
import Derived.Test.YtolnhjjggjbckaaDisksCopy
namespace Go.Proofs.Ytolnhjjggjbckaa
open Go.RowKit
set_option linter.unusedVariables false

section
open Go.ChangeShapes Go.WideShapes Go.ChangeAt
variable {H : Type} {enc : TypeId × Value → H} {W : World} {base b0 : Nat} {held : Bool} {r : Reach}
theorem open_U8 {v : Value} {d : DataW H} {p : List MemPlace} (hv : Value.okWide Try.prog W r b0 5 v) (h : DataW.Trod enc Try.prog W base (fun _ => true) held 5 v d p) : ∃ x : UInt8, v = .int .u8 x.toNat := by
  obtain ⟨a0, rfl, rfl, rfl, w0⟩ := open_int Try.underlying5 hv h
  obtain ⟨x, rfl, hx⟩ := u8_nat w0
  exact ⟨UInt8.ofNat x, by rw [show (UInt8.ofNat x).toNat = x by simp; omega]⟩
end
set_option maxRecDepth 100000 in
set_option maxHeartbeats 4000000 in
theorem dcopy_long (a : Option Addr) (m c : Nat) (L : List (UInt8 × List UInt8)) (fz : UInt8) (xn : UInt8) (ax : Option Addr) (mx cx : Nat) (xb : List UInt8) (w : World) (hL : IsWs w a m c L) (hx : IsB w ax mx cx xb) (hm : 100 < L.length) :
    Calls Try.prog 6 #[.slice a m c, .int .u8 fz.toNat, .agg #[.int .u8 xn.toNat, .slice ax mx cx]] w fun e w' => e = .returned (.bool true) ∧ Below w.heap.size w w' := by
  obtain rfl := hL.1
  obtain rfl := hx.1
  have hlt1 : decide ((100 : Int) < (L.length : Int)) = true := by simp; omega
  go_enter Try.func6, Try.ntmps6
  go_wp2_with fail
  have st0 := ArgSt.start (xn := xn) hL hx 41
  have hb0 : Below w.heap.size w (w.alloc (.cells #[.int .u8 xn.toNat, .slice ax xb.length cx] 41)) := (Below.refl _ _).alloc (Nat.le_refl _) _
  generalize w.alloc (.cells #[.int .u8 xn.toNat, .slice ax xb.length cx] 41) = w0 at st0 hb0 ⊢
  clear hL hx
  have hz := hb0.size
  have hzl := st0.lt
  refine (new_good 4 w0 (by decide) (by decide)).mono ?_; rintro e w1 ⟨bd, bl, rfl, hb1, g1, g2, hd1⟩
  have hs1 := hb1.size
  go_wp2_with fail
  refine (alive_any w1).mono ?_; rintro e w2 ⟨rfl, hb2⟩
  have hs2 := hb2.size
  go_wp2_with fail
  refine (alive_any w2).mono ?_; rintro e w3 ⟨rfl, hb3⟩
  go_wp2_with fail
  go_ret
  exact ⟨rfl, ((hb0.trans (hb1.mono hz)).trans (hb2.mono (by omega))).trans (hb3.mono (by omega))⟩

set_option maxRecDepth 100000 in
set_option maxHeartbeats 4000000 in
theorem dcopy_wide (a : Option Addr) (m c : Nat) (L : List (UInt8 × List UInt8)) (fz : UInt8) (xn : UInt8) (ax : Option Addr) (mx cx : Nat) (xb : List UInt8) (w : World) (hL : IsWs w a m c L) (hx : IsB w ax mx cx xb) (hm : L.length ≤ 100) (hxb : 64 < xb.length) :
    Calls Try.prog 6 #[.slice a m c, .int .u8 fz.toNat, .agg #[.int .u8 xn.toNat, .slice ax mx cx]] w fun e w' => e = .returned (.bool true) ∧ Below w.heap.size w w' := by
  obtain rfl := hL.1
  obtain rfl := hx.1
  have hlt1 : decide ((100 : Int) < (L.length : Int)) = false := by simp; omega
  have hlt2 : decide ((64 : Int) < (xb.length : Int)) = true := by simp; omega
  go_enter Try.func6, Try.ntmps6
  go_wp2_with fail
  have st0 := ArgSt.start (xn := xn) hL hx 41
  have hb0 : Below w.heap.size w (w.alloc (.cells #[.int .u8 xn.toNat, .slice ax xb.length cx] 41)) := (Below.refl _ _).alloc (Nat.le_refl _) _
  generalize w.alloc (.cells #[.int .u8 xn.toNat, .slice ax xb.length cx] 41) = w0 at st0 hb0 ⊢
  clear hL hx
  have hz := hb0.size
  have hzl := st0.lt
  refine (new_good 4 w0 (by decide) (by decide)).mono ?_; rintro e w1 ⟨bd, bl, rfl, hb1, g1, g2, hd1⟩
  have hs1 := hb1.size
  go_wp2_with fail
  refine (alive_any w1).mono ?_; rintro e w2 ⟨rfl, hb2⟩
  have hs2 := hb2.size
  have f3 := (st0.below (hb1.trans (hb2.mono hs1))).b
  go_wp2_with fail
  refine (alive_any w2).mono ?_; rintro e w3 ⟨rfl, hb3⟩
  go_wp2_with fail
  go_ret
  exact ⟨rfl, ((hb0.trans (hb1.mono hz)).trans (hb2.mono (by omega))).trans (hb3.mono (by omega))⟩

theorem dcopy_any (a : Option Addr) (m c : Nat) (L : List (UInt8 × List UInt8)) (fz : UInt8) (xn : UInt8) (ax : Option Addr) (mx cx : Nat) (xb : List UInt8) (w : World) (hL : IsWs w a m c L) (hx : IsB w ax mx cx xb) :
    Calls Try.prog 6 #[.slice a m c, .int .u8 fz.toNat, .agg #[.int .u8 xn.toNat, .slice ax mx cx]] w fun e w' => e = .returned (.bool true) ∧ Below w.heap.size w w' := by
  by_cases hm : L.length ≤ 100
  · by_cases hxb : xb.length ≤ 64
    · exact dcopy_main a m c L fz xn ax mx cx xb w hL hx hm hxb
    · exact dcopy_wide a m c L fz xn ax mx cx xb w hL hx hm (by omega)
  · exact dcopy_long a m c L fz xn ax mx cx xb w hL hx (by omega)

end Go.Proofs.Ytolnhjjggjbckaa
