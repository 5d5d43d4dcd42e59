/- The statements helper alive of disks; conditions: those typed. -/
import Derived.Test.YtolnhjjggjbckaaDisksA
import Derived.Deep.RegionHeld3
namespace Go.Proofs.Ytolnhjjggjbckaa
open Go.RowKit
set_option linter.unusedVariables false

def pa (x : UInt8) : List UInt8 := padS [x]
theorem pa_length (x : UInt8) : (pa x).length = 64 := padS_length _ (by simp)
theorem pa_0 (x : UInt8) : (pa x)[0]'(by rw [pa_length]; decide) = x := by simp [pa, padS]
theorem pa_1 (x : UInt8) : (pa x)[1]'(by rw [pa_length]; decide) = 0 := by simp [pa, padS]
theorem al0 : Dsk.write ⟨List.replicate 2 zsec, -1, false, 0⟩ 0 [97] = (0, ⟨[pa 97, zsec], -1, false, 1⟩) := rfl
theorem al1 : Dsk.write ⟨[pa 97, zsec], -1, false, 1⟩ 2 [] = (1, ⟨[pa 97, zsec], -1, false, 1⟩) := rfl
theorem al2 (l : List UInt8) (h : l.length = 65) : Dsk.write ⟨[pa 97, zsec], -1, false, 1⟩ 0 l = (1, ⟨[pa 97, zsec], -1, false, 1⟩) := by unfold Dsk.write; rw [if_pos (by rw [h]; decide)]
theorem al3 : Dsk.write ⟨[pa 97, zsec], 1, false, 1⟩ 0 [98] = (0, ⟨[pa 98, zsec], 0, false, 2⟩) := rfl
theorem al4 : Dsk.write ⟨[pa 98, zsec], 0, false, 2⟩ 0 [99] = (8, ⟨[pa 98, zsec], 0, true, 2⟩) := rfl
theorem al5 : (Dsk.write ⟨[pa 98, zsec], -1, false, 0⟩ 0 [100]).1 = 0 := rfl

theorem write_to (bd bl : Nat) (D D' : Dsk) (n r : Int) (a : Option Addr) (m c : Nat) (b : List UInt8) (w : World) (h : IsDisk w bd bl D) (hib : IsB w a m c b) (hok : D.ok) (e : D.write n b = (r, D')) :
    Calls Try.prog 9 #[.pointer (some ⟨bd, 0, none⟩), .int .i64 n, .slice a m c] w fun e w' => e = .returned (.int .i64 r) ∧ Touch (fun k => k = bd ∨ k = bl) w w' ∧ IsDisk w' bd bl D' := by
  have := write_any bd bl D n a m c b w h hib hok
  rw [e] at this
  exact this
theorem IsB.frozen (w : World) (x : UInt8) (e : TypeId) (fz : Nat × Nat) : IsB (w.alloc (.cells #[.int .u8 x.toNat] e fz)) (some ⟨w.heap.size, 0, none⟩) 1 1 [x] := IsB.fresh w [x] _ e fz rfl 1 1 rfl rfl (by simp [maxLen])

theorem RowB.cell {w : World} {g : Nat} {l : List UInt8} (h : RowB w g l) (i : Nat) (x : UInt8) (hx : l[i]? = some x) : w.cell? ⟨g, i, none⟩ = some (.int .u8 x.toNat) := by
  rw [cell_of_block h, List.getElem?_toArray]
  unfold bcells
  rw [List.getElem?_map, hx]; rfl
def z65 : List UInt8 := List.replicate 65 0
theorem z65_length : z65.length = 65 := by unfold z65; exact List.length_replicate
theorem z65_made : (madeCells (Value.int .u8 0).cells (65 * 1)).toList = bcells z65 := by
  show (madeCells #[Value.int .u8 0] (65 * 1)).toList = bcells z65
  rw [toList_madeCells_one]
  unfold bcells z65
  rw [List.map_replicate]; rfl

set_option maxRecDepth 100000 in
set_option maxHeartbeats 4000000 in
theorem alive_any (w : World) :
    Calls Try.prog 14 #[] w fun e w' => e = .returned (.bool true) ∧ Below w.heap.size w w' := by
  have kc := fun (w : World) (C : Array Value) (n c : Nat) => Lib.run_convert_bytes_const (P := Try.prog) w 22 5 C n c Try.underlying22 Try.underlying5
  go_enter Try.func14, Try.ntmps14
  go_wp2_with fail
  refine (new_good 2 w (by decide) (by decide)).mono ?_; rintro e w1 ⟨bd, bl, rfl, hb1, g1, g2, hd1⟩
  have hlt1 := hd1.lt
  go_wp2_with fail
  refine (write_to bd bl _ _ _ _ _ _ _ [97] _ (hd1.touch (Touch.of_below (S := fun _ => False) ((Below.refl _ _).alloc (Nat.le_refl _) _)) id id) (IsB.frozen w1 97 _ _) (by unfold Dsk.ok; decide) al0).mono ?_; rintro e w2 ⟨rfl, ht2, hd2⟩
  have hT2 := ((Touch.refl (fun k => k = bd ∨ k = bl) w1).alloc _).trans ht2
  have hs2 := hT2.size
  go_wp2_with fail
  refine (read_good bd bl _ 0 w2 hd2 (by decide)).mono ?_; rintro e w3 ⟨r1, rfl, hb3, hr1, hrow1⟩
  have hd3 := hd2.touch (Touch.of_below (S := fun _ => False) hb3) id id
  have hs3 := hb3.size
  obtain ⟨i0, hi, hz0, hz1, hz2⟩ := info_parts infoU8
  go_wp2_with fail
  refine (write_to bd bl _ _ _ _ _ _ _ [] _ hd3 (IsB.nil _) (by unfold Dsk.ok; decide) al1).mono ?_; rintro e w4 ⟨rfl, ht4, hd4⟩
  have hs4 := ht4.size
  go_wp2_with (first
    | (refine wpList_make_full _ rfl _ _ 22 rfl w4.heap.size 5 i0 _ 1 Try.underlying22 hi hz0 hz1 .i64 .i64 _ _ 65 rfl rfl rfl rfl (by rw [hz2]; decide) (by decide) (Nat.le_refl _) ?_; intro w5 hown5 hg5)
    | fail)
  rw [z65_made] at hown5
  have hs5 := hg5.size
  have hb5 : Below w4.heap.size w4 w5 := (Below.refl _ _).grown hg5 (Nat.le_refl _) (by simp)
  have hd5 := hd4.touch (Touch.of_below (S := fun _ => False) hb5) id id
  refine (write_to bd bl _ _ _ _ _ _ _ z65 _ hd5 (isB_of_owns hown5 z65_length.symm) (by unfold Dsk.ok; decide) (al2 z65 z65_length)).mono ?_; rintro e w6 ⟨rfl, ht6, hd6⟩
  have hs6 := ht6.size
  go_wp2_with fail
  refine (fuse_ok bd bl _ 1 w6 hd6 rfl).mono ?_; rintro e w7 ⟨rfl, ht7, hd7⟩
  have hs7 := ht7.size
  go_wp2_with fail
  refine (write_to bd bl _ _ _ _ _ _ _ [98] _ (hd7.touch (Touch.of_below (S := fun _ => False) ((Below.refl _ _).alloc (Nat.le_refl _) _)) id id) (IsB.frozen w7 98 _ _) (by unfold Dsk.ok; decide) al3).mono ?_; rintro e w8 ⟨rfl, ht8, hd8⟩
  have hT8 := ((Touch.refl (fun k => k = bd ∨ k = bl) w7).alloc _).trans ht8
  have hs8 := hT8.size
  go_wp2_with fail
  refine (blown_disk bd bl _ w8 hd8).mono ?_; rintro e w' ⟨rfl, rfl⟩
  go_wp2_with fail
  refine (write_to bd bl _ _ _ _ _ _ _ [99] _ (hd8.touch (Touch.of_below (S := fun _ => False) ((Below.refl _ _).alloc (Nat.le_refl _) _)) id id) (IsB.frozen w8 99 _ _) (by unfold Dsk.ok; decide) al4).mono ?_; rintro e w9 ⟨rfl, ht9, hd9⟩
  have hT9 := ((Touch.refl (fun k => k = bd ∨ k = bl) w8).alloc _).trans ht9
  have hs9 := hT9.size
  go_wp2_with fail
  refine (read_good bd bl _ 0 w9 hd9 (by decide)).mono ?_; rintro e w10 ⟨r2, rfl, hb10, hr2, hrow2⟩
  have hd10 := hd9.touch (Touch.of_below (S := fun _ => False) hb10) id id
  have hs10 := hb10.size
  go_wp2_with fail
  refine (copy_disk bd bl _ w10 hd10).mono ?_; rintro e w11 ⟨cd, cl, rfl, hb11, c1, c2, hc11⟩
  have hd11 := hd10.touch (Touch.of_below (S := fun _ => False) hb11) id id
  have hs11 := hb11.size
  have q3 : RowB w3 r1 (pa 97) := hrow1
  have nr1 : ¬ (r1 = bd ∨ r1 = bl) := by omega
  have nr2 : ¬ (r2 = bd ∨ r2 = bl) := by omega
  have q11 : RowB w11 r1 (pa 97) := (((((((q3.touch ht4 nr1).touch (Touch.of_below (S := fun _ => False) hb5) id).touch ht6 nr1).touch ht7 (by omega)).touch hT8 nr1).touch hT9 nr1).touch (Touch.of_below (S := fun _ => False) hb10) id).touch (Touch.of_below (S := fun _ => False) hb11) id
  have p11 : RowB w11 r2 (pa 98) := RowB.touch hrow2 (Touch.of_below (S := fun _ => False) hb11) id
  have k0 : w11.cell? ⟨r1, 0, none⟩ = some (.int .u8 97) := q11.cell 0 97 (by simp [pa, padS])
  have k1 : w11.cell? ⟨r1, 1, none⟩ = some (.int .u8 0) := q11.cell 1 0 (by simp [pa, padS])
  have k2 : w11.cell? ⟨r2, 0, none⟩ = some (.int .u8 98) := p11.cell 0 98 (by simp [pa, padS])
  have hB11 : Below w.heap.size w w11 := by
    have hT : Touch (fun k => k = bd ∨ k = bl) w1 w11 := ((((((((hT2.trans (Touch.of_below hb3)).trans ht4).trans (Touch.of_below hb5)).trans ht6).trans (ht7.weaken (fun k _ hk => .inl hk))).trans hT8).trans hT9).trans (Touch.of_below hb10)).trans (Touch.of_below hb11)
    exact hb1.trans (hT.below hb1.size (fun k hk => by omega))
  clear hrow1 hrow2 q3 q11 p11 hd1 hd2 hd3 hd4 hd5 hd6 hd7 hd8 hd9 hd10 ht2 ht4 ht6 ht7 ht8 ht9 hT2 hT8 hT9 hown5 hg5 hb5 hb3 hb10 hb1 hb11
  go_wp2_with fail
  refine (blown_disk bd bl _ w11 hd11).mono ?_; rintro e w' ⟨rfl, rfl⟩
  go_wp2_with fail
  refine (fuse_blown bd bl _ _ w11 hd11 rfl).mono ?_; rintro e w' ⟨rfl, rfl⟩
  go_wp2_with fail
  refine (writes_disk bd bl _ w11 hd11).mono ?_; rintro e w' ⟨rfl, rfl⟩
  go_wp2_with fail
  refine (write_to cd cl _ _ _ _ _ _ _ [100] _ (hc11.touch (Touch.of_below (S := fun _ => False) ((Below.refl _ _).alloc (Nat.le_refl _) _)) id id) (IsB.frozen w11 100 _ _) (by unfold Dsk.ok; decide) (Prod.ext al5 rfl)).mono ?_; rintro e w12 ⟨rfl, ht12, hd12⟩
  go_wp2_with fail
  go_ret
  have hT12 := ((Touch.refl (fun k => k = cd ∨ k = cl) w11).alloc _).trans ht12
  exact ⟨rfl, hB11.trans (hT12.below hB11.size (fun k hk => by omega))⟩

end Go.Proofs.Ytolnhjjggjbckaa
