/- The statement DisksCopy: what it returns; conditions: those typed. -/
import Derived.Test.YtolnhjjggjbckaaDisksLast2
namespace Go.Proofs.Ytolnhjjggjbckaa
open Go.RowKit
set_option linter.unusedVariables false
set_option linter.unusedSimpArgs false

theorem Dsk.write_inv (D : Dsk) (n : Int) (b : List UInt8) (hl : D.left ≤ 255) : (D.write n b).2.left ≤ 255 ∧ D.writes ≤ (D.write n b).2.writes ∧ (D.write n b).2.writes ≤ D.writes + 1 := by
  unfold Dsk.write
  split
  · exact ⟨hl, Int.le_refl _, by dsimp only; omega⟩
  · split
    · exact ⟨hl, Int.le_refl _, by dsimp only; omega⟩
    · refine ⟨?_, by dsimp only; omega, Int.le_refl _⟩
      dsimp only
      split <;> omega
theorem Dsk.write_told (D : Dsk) (n : Nat) (b : List UInt8) (hn : n < D.secs.length) (hb : b.length ≤ 64) (hw : 0 ≤ D.writes) : (D.write n b).2.blown = true ∨ ((D.write n b).2.blown = false ∧ 0 < (D.write n b).2.writes) := by
  unfold Dsk.write
  rw [if_neg (by omega)]
  split
  · exact .inl rfl
  · rename_i h
    refine .inr ⟨?_, by dsimp only; omega⟩
    cases hb : D.blown with
    | false => rfl
    | true => exact absurd (.inl hb) h
theorem u8_64 (x : UInt8) : wrap64 (x.toNat : Int) = x.toNat := by
  have := x.toNat_lt
  unfold wrap64; omega

set_option maxRecDepth 100000 in
set_option maxHeartbeats 4000000 in
theorem dcopy_main (a : Option Addr) (m c : Nat) (L : List (UInt8 × List UInt8)) (fz : UInt8) (xn : UInt8) (ax : Option Addr) (mx cx : Nat) (xb : List UInt8) (w : World) (hL : IsWs w a m c L) (hx : IsB w ax mx cx xb) (hm : L.length ≤ 100) (hxb : xb.length ≤ 64) :
    Calls Try.prog 6 #[.slice a m c, .int .u8 fz.toNat, .agg #[.int .u8 xn.toNat, .slice ax mx cx]] w fun e w' => e = .returned (.bool true) ∧ Below w.heap.size w w' := by
  obtain rfl := hL.1
  obtain rfl := hx.1
  have hlt1 : decide ((100 : Int) < (L.length : Int)) = false := by simp; omega
  have hlt2 : decide ((64 : Int) < (xb.length : Int)) = false := by simp; omega
  have hfz := fz.toNat_lt
  go_enter Try.func6, Try.ntmps6
  go_wp2_with fail
  have st0 := ArgSt.start (xn := xn) hL hx 41
  have hb0 : Below w.heap.size w (w.alloc (.cells #[.int .u8 xn.toNat, .slice ax xb.length cx] 41)) := (Below.refl _ _).alloc (Nat.le_refl _) _
  generalize w.alloc (.cells #[.int .u8 xn.toNat, .slice ax xb.length cx] 41) = w0 at st0 hb0 ⊢
  clear hL hx
  have hz := hb0.size
  have hzl := st0.lt
  refine (new_good 4 w0 (by decide) (by decide)).mono ?_; rintro e w1 ⟨bd, bl, rfl, hb1, g1, g2, hd1⟩
  have hs1 := hb1.size
  go_wp2_with fail
  refine (alive_any w1).mono ?_; rintro e w2 ⟨rfl, hb2⟩
  have hs2 := hb2.size
  have hB2 : Below w0.heap.size w0 w2 := hb1.trans (hb2.mono hs1)
  have hd2 := hd1.touch (Touch.of_below (S := fun _ => False) hb2) id id
  have st2 := st0.below hB2
  have f2 := st2.n
  have f3 := st2.b
  clear hb1 hb2 hd1
  go_wp2_with fail
  refine (fuse_ok bd bl _ _ w2 hd2 rfl).mono ?_; rintro e w2' ⟨rfl, ht2, hd2'⟩
  have hB2' := hB2.trans (ht2.below hB2.size (fun k hk => by omega))
  go_wp2_with fail
  clear st2 f2 f3 hd2 ht2
  go_loopw [9] (fun i wr => ∃ (k : Nat) (D : Dsk), k ≤ L.length ∧ i = .int .i64 k ∧ IsDisk wr bd bl D ∧ D.secs.length = 4 ∧ D.left ≤ 255 ∧ 0 ≤ D.writes ∧ D.writes ≤ k ∧ Below w0.heap.size w0 wr) (fun i _ => L.length - (intOf i).toNat)
  case atStart => exact ⟨0, _, Nat.zero_le _, rfl, hd2', List.length_replicate, by dsimp only; omega, Int.le_refl _, Int.le_refl _, hB2'⟩
  case round =>
    obtain ⟨k, D, hk, rfl, hd, h4, hle, hw0, hwk, hbel⟩ := hrel
    have hsz := hbel.size
    have st := st0.below hbel
    by_cases hlt : k < L.length
    · obtain ⟨_, h2, _, h3 | ⟨b, off, rfl, hblt, hc⟩⟩ := st.ws
      · rw [h3] at hlt; simp at hlt
      obtain ⟨e1, ai, ni, ci, e2, hB⟩ := hc k hlt
      have e1' : wr.drew.cell? ⟨b, off + k * 2, none⟩ = some (.int .u8 L[k].1.toNat) := e1
      have e2' : wr.drew.cell? ⟨b, off + k * 2 + 1, none⟩ = some (.slice ai ni ci) := e2
      have hbd : Below wr.heap.size wr wr.drew := (Below.refl _ _).drew
      have hdd := hd.touch (Touch.of_below (S := fun _ => False) hbd) id id
      have hBB := hB.below hbd
      clear hd2' hc
      go_wp2_with fail
      go_still_tail 13, (by kernel_rfl)
      change wpList _ _ _ _ _ wr.drew
      generalize wr.drew = w2 at e1' e2' hbd hdd hBB ⊢
      go_wp2_with fail
      rw [rem4]
      refine (write_any bd bl D _ _ _ _ _ _ hdd hBB ⟨hw0, by omega, by omega⟩).mono ?_; rintro e w3 ⟨rfl, ht3, hd3⟩
      obtain ⟨j1, j3, j4⟩ := D.write_inv ((L[k].1.toNat % 4 : Nat) : Int) L[k].2 hle
      have hb3 : Below w0.heap.size w0 w3 := (hbel.trans (hbd.mono hsz)).trans (ht3.below (Nat.le_trans hsz hbd.size) (fun k hk => by omega))
      go_wp2_with fail
      go_roundw
      case rel => exact ⟨k + 1, _, by omega, by go_num, hd3, by rw [Dsk.write_secs_length, h4], j1, by omega, by omega, hb3⟩
      case measure => simp [intOf]; omega
    · have hkk : k = L.length := by omega
      subst hkk
      clear hd2'
      have hdl := hd.lt
      go_wp2_with fail
      refine (copy_disk bd bl D wr hd).mono ?_; rintro e w3 ⟨cd, cl, rfl, hb3, c1, c2, hc3⟩
      have hd3 := hd.touch (Touch.of_below (S := fun _ => False) hb3) id id
      have hs3 := hb3.size
      have hcl := hc3.lt
      go_wp2_with fail
      refine (blown_disk cd cl _ w3 hc3).mono ?_; rintro e w' ⟨rfl, rfl⟩
      go_wp2_with fail
      refine (writes_disk cd cl _ w3 hc3).mono ?_; rintro e w' ⟨rfl, rfl⟩
      go_wp2_with fail
      refine (len_disk cd cl _ w3 hc3).mono ?_; rintro e w' ⟨rfl, rfl⟩
      dsimp only
      rw [h4]
      go_wp2_with fail
      refine (all_disk cd cl _ w3 hc3).mono ?_; rintro e w4 ⟨ga, gc, rfl, hb4, A1⟩
      have hd4 := hd3.touch (Touch.of_below (S := fun _ => False) hb4) id id
      have hs4 := hb4.size
      go_wp2_with fail
      refine (all_disk bd bl _ w4 hd4).mono ?_; rintro e w5 ⟨ka, kc, rfl, hb5, A2⟩
      have hs5 := hb5.size
      have B1 := A1.below hb5
      dsimp only at B1 A2 ⊢
      rw [h4] at B1 A2
      go_wp2_with fail
      refine (sameBs_any _ _ _ _ _ _ _ _ _ _ w5 B1 A2).mono ?_; rintro e w6 ⟨rfl, j, hw6⟩
      have hb6 : Below w5.heap.size w5 w6 := by rw [hw6]; exact below_drewN (Below.refl _ _) j
      have hs6 := hb6.size
      rw [decide_eq_true rfl]
      have hb36 : Below w3.heap.size w3 w6 := (hb4.trans (hb5.mono hs4)).trans (hb6.mono (by omega))
      have hd6 := hd3.touch (Touch.of_below (S := fun _ => False) hb36) id id
      have hc6 := hc3.touch (Touch.of_below (S := fun _ => False) hb36) id id
      clear hw6 A1 A2 B1 hb4 hb5 hb6 hd3 hc3 hd4
      go_wp2_with fail
      refine (all_disk bd bl _ w6 hd6).mono ?_; rintro e w7 ⟨ma, mc, rfl, hb7, A3⟩
      have hs7 := hb7.size
      have hb37 : Below w3.heap.size w3 w7 := hb36.trans (hb7.mono (by omega))
      have hd7 := hd6.touch (Touch.of_below (S := fun _ => False) hb7) id id
      have hc7 := hc6.touch (Touch.of_below (S := fun _ => False) hb7) id id
      have st7 := st.below (hb3.trans (hb37.mono hs3))
      have f3 := st7.n
      have f4 := st7.b
      clear A3 hd6 hc6
      go_wp2_with fail
      rw [rem4]
      have hwr := Dsk.write_good ⟨D.secs, -1, false, 0⟩ (xn.toNat % 4) xb (by dsimp only; omega) rfl (by dsimp only; omega) hxb
      refine (write_any cd cl _ _ _ _ _ _ _ hc7 st7.xb ⟨Int.le_refl _, by dsimp only; omega, by dsimp only; omega⟩).mono ?_; rintro e w8 ⟨rfl, ht8, hc8⟩
      rw [hwr] at hc8 ⊢
      have hs8 := ht8.size
      have hd8 := hd7.touch ht8 (by omega) (by omega)
      go_wp2_with fail
      refine (copy_disk cd cl _ w8 hc8).mono ?_; rintro e w9 ⟨ed, el, rfl, hb9, e1, e2, he9⟩
      have hs9 := hb9.size
      have hc9 := hc8.touch (Touch.of_below (S := fun _ => False) hb9) id id
      have hd9 := hd8.touch (Touch.of_below (S := fun _ => False) hb9) id id
      have hB9 : Below w0.heap.size w0 w9 := ((hbel.trans (hb3.mono hsz)).trans (hb37.mono (by omega))).trans ((ht8.below (B := w0.heap.size) (by omega) (fun k hk => by omega)).trans (hb9.mono (by omega)))
      have st9 := st0.below hB9
      have f5 := st9.n
      clear hc7 hd7 hd8 f3 f4 st7
      go_wp2_with fail
      have e7 : ((xn.toNat : Int) + 1) % 4 = (((xn.toNat + 1) % 4 : Nat) : Int) := by omega
      rw [e7]
      have hba : Below w9.heap.size w9 (w9.alloc (.cells #[.int .u8 77] 5)) := (Below.refl _ _).alloc (Nat.le_refl _) _
      refine (write_any bd bl _ _ _ _ _ _ _ (hd9.touch (Touch.of_below (S := fun _ => False) hba) id id) (IsB.frozen w9 77 _ _) ⟨hw0, by omega, by omega⟩).mono ?_; rintro e w10 ⟨rfl, ht10, hd10⟩
      have hT10 := (Touch.of_below (S := fun k => k = bd ∨ k = bl) hba).trans ht10
      have hs10 := hT10.size
      have told := D.write_told ((xn.toNat + 1) % 4) [77] (by omega) (by decide) hw0
      have hc10 := hc9.touch hT10 (by omega) (by omega)
      have he10 := he9.touch hT10 (by omega) (by omega)
      have hB10 : Below w0.heap.size w0 w10 := hB9.trans (hT10.below (B := w0.heap.size) (by omega) (fun k hk => by omega))
      clear f5 hd9 hc9 he9 hba ht10 e7 hc8 st st0 st9 hT10
      have h4' : (D.secs.set (xn.toNat % 4) (padS xb)).length = 4 := by rw [List.length_set, h4]
      generalize (D.secs.set (xn.toNat % 4) (padS xb)) = S2 at hc10 he10 h4'
      generalize (D.write ((((xn.toNat + 1) % 4 : Nat) : Int)) [77]).2 = D2 at hd10 told
      go_wp2_with fail
      refine (all_disk ed el _ w10 he10).mono ?_; rintro e w11 ⟨pa', pc', rfl, hb11, A1⟩
      have hs11 := hb11.size
      have hc11 := hc10.touch (Touch.of_below (S := fun _ => False) hb11) id id
      dsimp only at A1 ⊢
      rw [h4'] at A1 ⊢
      go_wp2_with fail
      refine (all_disk cd cl _ w11 hc11).mono ?_; rintro e w12 ⟨qa', qc', rfl, hb12, A2⟩
      have hs12 := hb12.size
      have B1 := A1.below hb12
      dsimp only at B1 A2 ⊢
      rw [h4'] at A2 ⊢
      go_wp2_with fail
      refine (sameBs_any _ _ _ _ _ _ _ _ _ _ w12 B1 A2).mono ?_; rintro e w13 ⟨rfl, j2, hw13⟩
      have hb13 : Below w12.heap.size w12 w13 := by rw [hw13]; exact below_drewN (Below.refl _ _) j2
      have hs13 := hb13.size
      rw [decide_eq_true rfl]
      have hb1013 : Below w10.heap.size w10 w13 := (hb11.trans (hb12.mono hs11)).trans (hb13.mono (by omega))
      have hd13 := hd10.touch (Touch.of_below (S := fun _ => False) hb1013) id id
      have hB13 : Below w0.heap.size w0 w13 := hB10.trans (hb1013.mono hB10.size)
      clear hw13 A1 A2 B1 hb11 hb12 hb13 hc10 hc11 he10 hd10
      go_wp2_with fail
      refine (blown_disk bd bl _ w13 hd13).mono ?_; rintro e w' ⟨rfl, rfl⟩
      rcases told with htd | ⟨htd, hpos⟩
      · rw [htd]
        go_wp2_with fail
        go_ret
        exact ⟨rfl, hb0.trans (hB13.mono hz)⟩
      · rw [htd]
        go_wp2_with fail
        refine (writes_disk bd bl _ w13 hd13).mono ?_; rintro e w' ⟨rfl, rfl⟩
        go_wp2_with fail
        go_ret
        exact ⟨rfl, hb0.trans (hB13.mono hz)⟩

end Go.Proofs.Ytolnhjjggjbckaa
