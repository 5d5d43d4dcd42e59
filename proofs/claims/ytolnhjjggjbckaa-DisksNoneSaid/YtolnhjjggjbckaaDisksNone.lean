/- The statement DisksNone: what it returns; conditions: those typed. -/
import Derived.Test.YtolnhjjggjbckaaDisksN
namespace Go.Proofs.Ytolnhjjggjbckaa
open Go.RowKit
set_option linter.unusedVariables false

/-- the list of the two disks. -/
def NoneSt (w : World) (z : Nat) : Prop := w.cell? ⟨z + 1, 0, none⟩ = some (.pointer none) ∧ w.cell? ⟨z + 1, 1, none⟩ = some (.pointer (some ⟨z, 0, none⟩)) ∧ IsZero w z
theorem NoneSt.below {w w' : World} {z : Nat} (h : NoneSt w z) (hb : Below w.heap.size w w') : NoneSt w' z :=
  ⟨(Touch.of_below (S := fun _ => False) hb).cell h.1 id, (Touch.of_below (S := fun _ => False) hb).cell h.2.1 id, h.2.2.below hb⟩

set_option maxRecDepth 100000 in
set_option maxHeartbeats 4000000 in
theorem dnone_any (n : Int) (a : Option Addr) (m c : Nat) (l : List UInt8) (w : World) (hn : -9223372036854775808 ≤ n ∧ n ≤ 9223372036854775807) (h : IsB w a m c l) :
    Calls Try.prog 3 #[.int .i64 n, .slice a m c] w fun e w' => e = .returned (.bool true) ∧ Below w.heap.size w w' := by
  clear h
  go_enter Try.func3, Try.ntmps3
  go_wp2
  go_loopw [6] (fun i wr => ∃ k : Nat, k ≤ 2 ∧ i = .int .i64 k ∧ NoneSt wr w.heap.size ∧ Below w.heap.size w wr) (fun i _ => 2 - (intOf i).toNat)
  case atStart =>
    refine ⟨0, Nat.zero_le _, rfl, ⟨?_, ?_, ?_⟩, ((Below.refl _ _).alloc (Nat.le_refl _) _).alloc (by simp) _⟩
    · rw [cell_of_block (heap_alloc2_new w _ _)]; rfl
    · rw [cell_of_block (heap_alloc2_new w _ _)]; rfl
    · exact heap_alloc2_old w _ _
  case round =>
    obtain ⟨k, hk, rfl, st0, hb0⟩ := hrel
    obtain ⟨q0, q1, z0⟩ := st0
    have hs0 := hb0.size
    have st0 : NoneSt wr w.heap.size := ⟨q0, q1, z0⟩
    have hk3 : k = 0 ∨ k = 1 ∨ k = 2 := by omega
    rcases hk3 with rfl | rfl | rfl
    · go_wp2_with fail
      refine (read_nil n _).mono ?_; rintro e w1 ⟨rfl, hb1⟩
      have st1 := st0.below hb1
      obtain ⟨q0, q1, z0⟩ := st1
      have st1 : NoneSt w1 w.heap.size := ⟨q0, q1, z0⟩
      have hs1 := hb1.size
      go_wp2_with fail
      refine (copy_nil _).mono ?_; rintro e w2 ⟨rfl, hb2⟩
      have st2 := st1.below hb2
      obtain ⟨q0, q1, z0⟩ := st2
      have st2 : NoneSt w2 w.heap.size := ⟨q0, q1, z0⟩
      have hs2 := hb2.size
      go_wp2_with fail
      refine (write_nil n a m c _).mono ?_; rintro e w3 ⟨rfl, hb3⟩
      have st3 := st2.below hb3
      obtain ⟨q0, q1, z0⟩ := st3
      have st3 : NoneSt w3 w.heap.size := ⟨q0, q1, z0⟩
      have hs3 := hb3.size
      go_wp2_with fail
      refine (fuse_nil n _).mono ?_; rintro e w4 ⟨rfl, hb4⟩
      have st4 := st3.below hb4
      obtain ⟨q0, q1, z0⟩ := st4
      have st4 : NoneSt w4 w.heap.size := ⟨q0, q1, z0⟩
      have hs4 := hb4.size
      go_wp2_with fail
      refine (blown_nil _).mono ?_; rintro e w5 ⟨rfl, hb5⟩
      have st5 := st4.below hb5
      obtain ⟨q0, q1, z0⟩ := st5
      have st5 : NoneSt w5 w.heap.size := ⟨q0, q1, z0⟩
      have hs5 := hb5.size
      go_wp2_with fail
      refine (writes_nil _).mono ?_; rintro e w6 ⟨rfl, hb6⟩
      have st6 := st5.below hb6
      obtain ⟨q0, q1, z0⟩ := st6
      have st6 : NoneSt w6 w.heap.size := ⟨q0, q1, z0⟩
      have hs6 := hb6.size
      go_wp2_with fail
      refine (len_nilB _).mono ?_; rintro e w7 ⟨rfl, hb7⟩
      have st7 := st6.below hb7
      obtain ⟨q0, q1, z0⟩ := st7
      have st7 : NoneSt w7 w.heap.size := ⟨q0, q1, z0⟩
      have hs7 := hb7.size
      go_wp2_with fail
      go_roundw
      case rel => exact ⟨1, by omega, by go_num, st7, (((((((hb0.trans (hb1.mono (by omega))).trans (hb2.mono (by omega))).trans (hb3.mono (by omega))).trans (hb4.mono (by omega))).trans (hb5.mono (by omega))).trans (hb6.mono (by omega))).trans (hb7.mono (by omega)))⟩
      case measure => simp [intOf]
    · go_wp2_with fail
      refine (read_zero n _ _ st0.2.2).mono ?_; rintro e w1 ⟨rfl, hb1⟩
      have st1 := st0.below hb1
      obtain ⟨q0, q1, z0⟩ := st1
      have st1 : NoneSt w1 w.heap.size := ⟨q0, q1, z0⟩
      have hs1 := hb1.size
      go_wp2_with fail
      refine (copy_zero _ _ st1.2.2).mono ?_; rintro e w2 ⟨rfl, hb2⟩
      have st2 := st1.below hb2
      obtain ⟨q0, q1, z0⟩ := st2
      have st2 : NoneSt w2 w.heap.size := ⟨q0, q1, z0⟩
      have hs2 := hb2.size
      go_wp2_with fail
      refine (write_zero n a m c _ _ st2.2.2).mono ?_; rintro e w3 ⟨rfl, hb3⟩
      have st3 := st2.below hb3
      obtain ⟨q0, q1, z0⟩ := st3
      have st3 : NoneSt w3 w.heap.size := ⟨q0, q1, z0⟩
      have hs3 := hb3.size
      go_wp2_with fail
      refine (fuse_zero n _ _ st3.2.2).mono ?_; rintro e w4 ⟨rfl, hb4⟩
      have st4 := st3.below hb4
      obtain ⟨q0, q1, z0⟩ := st4
      have st4 : NoneSt w4 w.heap.size := ⟨q0, q1, z0⟩
      have hs4 := hb4.size
      go_wp2_with fail
      refine (blown_zero _ _ st4.2.2).mono ?_; rintro e w5 ⟨rfl, hb5⟩
      have st5 := st4.below hb5
      obtain ⟨q0, q1, z0⟩ := st5
      have st5 : NoneSt w5 w.heap.size := ⟨q0, q1, z0⟩
      have hs5 := hb5.size
      go_wp2_with fail
      refine (writes_zero _ _ st5.2.2).mono ?_; rintro e w6 ⟨rfl, hb6⟩
      have st6 := st5.below hb6
      obtain ⟨q0, q1, z0⟩ := st6
      have st6 : NoneSt w6 w.heap.size := ⟨q0, q1, z0⟩
      have hs6 := hb6.size
      go_wp2_with fail
      refine (len_zero _ _ st6.2.2).mono ?_; rintro e w7 ⟨rfl, hb7⟩
      have st7 := st6.below hb7
      obtain ⟨q0, q1, z0⟩ := st7
      have st7 : NoneSt w7 w.heap.size := ⟨q0, q1, z0⟩
      have hs7 := hb7.size
      go_wp2_with fail
      go_roundw
      case rel => exact ⟨2, by omega, by go_num, st7, (((((((hb0.trans (hb1.mono (by omega))).trans (hb2.mono (by omega))).trans (hb3.mono (by omega))).trans (hb4.mono (by omega))).trans (hb5.mono (by omega))).trans (hb6.mono (by omega))).trans (hb7.mono (by omega)))⟩
      case measure => simp [intOf]
    · go_wp2
      go_ret
      exact ⟨rfl, hb0⟩

end Go.Proofs.Ytolnhjjggjbckaa
