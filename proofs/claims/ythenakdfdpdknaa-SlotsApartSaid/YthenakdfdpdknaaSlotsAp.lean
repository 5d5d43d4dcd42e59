/- The statement SlotsApart; conditions: those typed. -/
import Derived.Test.YthenakdfdpdknaaSlotsApA
namespace Go.Proofs.Ythenakdfdpdknaa
open Go.RowKit
set_option linter.unusedVariables false

set_option maxRecDepth 100000 in
set_option maxHeartbeats 4000000 in
theorem sapart_test (aF : Nat → Option Addr) (cF : Nat → Nat) (lF : Nat → List UInt8) (ma : Option Addr) (mn mc : Nat) (m : List UInt8) (wk : UInt8) (w : World) (h0 : IsB w (aF 0) (lF 0).length (cF 0) (lF 0)) (h1 : IsB w (aF 1) (lF 1).length (cF 1) (lF 1)) (h2 : IsB w (aF 2) (lF 2).length (cF 2) (lF 2)) (hm : IsB w ma mn mc m) :
    Calls Try.prog 6 #[.agg #[.slice (aF 0) (lF 0).length (cF 0), .slice (aF 1) (lF 1).length (cF 1), .slice (aF 2) (lF 2).length (cF 2)], .slice ma mn mc, .int .u8 wk.toNat] w fun e w' => e = .returned (.bool true) ∧ Below w.heap.size w w' := by
  obtain rfl := hm.1
  have hbe : Below w.heap.size w (w.alloc (.cells #[.slice (aF 0) (lF 0).length (cF 0), .slice (aF 1) (lF 1).length (cF 1), .slice (aF 2) (lF 2).length (cF 2)] 44)) := (Below.refl _ _).alloc (Nat.le_refl _) _
  have hv := heap_new w (.cells #[.slice (aF 0) (lF 0).length (cF 0), .slice (aF 1) (lF 1).length (cF 1), .slice (aF 2) (lF 2).length (cF 2)] 44 (0, 0))
  have hbs : Bs3 (w.alloc (.cells #[.slice (aF 0) (lF 0).length (cF 0), .slice (aF 1) (lF 1).length (cF 1), .slice (aF 2) (lF 2).length (cF 2)] 44)) w.heap.size aF cF lF := by
    refine ⟨fun i hi => ?_, fun i hi => ?_, lt_of_heap hv⟩
    · rw [cell_of_block hv]
      match i, hi with
      | 0, _ => rfl
      | 1, _ => rfl
      | 2, _ => rfl
    · match i, hi with
      | 0, _ => exact h0.below hbe
      | 1, _ => exact h1.below hbe
      | 2, _ => exact h2.below hbe
  have hblk : Hid (∀ i, i < 3 → ∀ x off, aF i = some ⟨x, off, none⟩ → lF i ≠ [] → x < w.heap.size) := Lib.hid (fun i hi => by
    match i, hi with
    | 0, _ => exact h0.blk
    | 1, _ => exact h1.blk
    | 2, _ => exact h2.blk)
  have hmk := Lib.hid hm.blk
  have hm0 := hm.below hbe
  clear h0 h1 h2 hm hv
  go_enter Try.func6, Try.ntmps6
  go_wp2_with fail
  generalize w.alloc (.cells #[.slice (aF 0) (lF 0).length (cF 0), .slice (aF 1) (lF 1).length (cF 1), .slice (aF 2) (lF 2).length (cF 2)] 44) = w0 at hbe hbs hm0 ⊢
  obtain ⟨bz, hbz⟩ : ∃ bz, bz = w.heap.size := ⟨_, rfl⟩
  rw [← hbz] at hbs ⊢
  obtain ⟨N, hN⟩ : ∃ N, N = 3 := ⟨_, rfl⟩
  have HN := Lib.hid hN
  have HBZ := Lib.hid hbz
  have HBE := Lib.hid hbe
  clear hN hbz hbe
  have HBS := Lib.hid hbs
  have HM0 := Lib.hid hm0
  clear hbs hm0
  go_loop [7] (fun i => ∃ j : Nat, j ≤ 3 ∧ i = .int .i64 j ∧ Hid (∀ k, k < j → (lF k).length ≤ 320)) (fun i => N - (intOf i).toNat)
  case atStart => exact ⟨0, by omega, rfl, Lib.hid (fun k hk => by omega)⟩
  case round =>
    obtain ⟨j, hj, rfl, HL⟩ := hrel
    by_cases hlt : j < 3
    · have hc := HBS.out.cell j hlt
      have hji : (j : Int) < 3 := by omega
      by_cases hbig : 320 < (lF j).length
      · have d1 : decide ((320 : Int) < ((lF j).length : Int)) = true := decide_eq_true (by omega)
        clear hbig
        go_wp2_with fail
        refine (lives_any _).mono ?_; rintro e w5 ⟨rfl, hb5⟩
        go_wp2_with fail
        go_ret
        exact ⟨rfl, HBE.out.trans (hb5.mono HBE.out.size)⟩
      · have d1 : decide ((320 : Int) < ((lF j).length : Int)) = false := decide_eq_false (by omega)
        have HL' : Hid (∀ k, k < j + 1 → (lF k).length ≤ 320) := Lib.hid (fun k hk => by
          by_cases hkj : k = j
          · subst hkj; omega
          · exact HL.out k (by omega))
        clear hbig HL
        go_wp2_with fail
        go_round
        case rel => exact ⟨j + 1, by omega, by go_num, HL'⟩
        case measure => have := HN.out; simp [intOf]; omega
    · have hj3 : j = 3 := by omega
      subst hj3
      clear hlt
      by_cases hbig : 320 < m.length
      · have d1 : decide ((320 : Int) < (m.length : Int)) = true := decide_eq_true (by omega)
        clear hbig
        go_wp2_with fail
        refine (lives_any _).mono ?_; rintro e w5 ⟨rfl, hb5⟩
        go_wp2_with fail
        go_ret
        exact ⟨rfl, HBE.out.trans (hb5.mono HBE.out.size)⟩
      have d1 : decide ((320 : Int) < (m.length : Int)) = false := decide_eq_false (by omega)
      clear hbig
      go_wp2_with fail
      refine (new_disk 36 36 w0 rfl (by decide) (by decide)).mono ?_; rintro e w1 ⟨bd, bl, rfl, hb1, g1, g2, hd1⟩
      have hbs1 := HBS.out.below hb1
      have hm1 := HM0.out.below hb1
      have hb1' := HBE.out.trans (hb1.mono HBE.out.size)
      have hgg : Hid (w.heap.size ≤ bd ∧ w.heap.size ≤ bl ∧ bz ≠ bd ∧ bz ≠ bl) := Lib.hid (by have := HBE.out.size; have := HBS.out.lt; omega)
      have hga : Hid (∀ i, i < 3 → ∀ x off, aF i = some ⟨x, off, none⟩ → lF i ≠ [] → ¬ (x = bd ∨ x = bl)) := Lib.hid (fun i hi x off h hl => by have h1 := hblk.out i hi x off h hl; have := hgg.out; omega)
      have hgm : Hid (∀ x off, ma = some ⟨x, off, none⟩ → m ≠ [] → ¬ (x = bd ∨ x = bl)) := Lib.hid (fun x off h hl => by have h1 := hmk.out x off h hl; have := hgg.out; omega)
      clear hb1 g1 g2 HM0 HBS HBE d1
      go_wp2_with fail
      go_loopw [10] (fun i wx => ∃ j : Nat, j ≤ 3 ∧ i = .int .i64 j ∧ Hid (Below w.heap.size w wx) ∧ Hid (Bs3 wx bz aF cF lF) ∧ Hid (IsB wx ma m.length mc m) ∧ Hid (∃ D, IsDisk wx bd bl D ∧ ApSt lF D j)) (fun i _ => N - (intOf i).toNat)
      case atStart => exact ⟨0, by omega, rfl, Lib.hid hb1', Lib.hid hbs1, Lib.hid hm1, Lib.hid ⟨_, hd1, ApSt.start lF⟩⟩
      case round =>
        clear hb1' hbs1 hm1 hd1
        obtain ⟨j, hj, rfl, HB, HS, HM, HD⟩ := hrel
        obtain ⟨D, hd, hst⟩ := HD.out
        have HST := Lib.hid hst
        clear hst HD
        by_cases hlt : j < 3
        · have hc := HS.out.cell j hlt
          have hji : (j : Int) < 3 := by omega
          obtain ⟨D', hput, hst'⟩ := HST.out.step hlt (HL.out j hlt)
          have HPUT := Lib.hid hput
          have HST' := Lib.hid hst'
          have e12 : Hid ((12 : Int) * (j : Int) = ((12 * j : Nat) : Int)) := Lib.hid (by push_cast; rfl)
          have e5 : Hid ((j : Int) + 5 = ((j + 5 : Nat) : Int)) := Lib.hid (by push_cast; rfl)
          clear hput hst'
          go_wp2_with fail
          rw [e12.out, e5.out]
          refine (put_any bd bl D ((12 * j : Nat) : Int) (j + 5) (aF j) (lF j).length (cF j) (lF j) (6 * j) wr hd (HS.out.is j hlt) (hga.out j hlt) HST.out.fine (by omega) (by omega)).mono ?_; rintro e w2 ⟨rfl, ht2, hd2⟩
          rw [HPUT.out] at hd2 ⊢
          have HB2 := Lib.hid (HB.out.trans (ht2.below HB.out.size (fun k hk e => by have := hgg.out; omega)))
          have HS2 := Lib.hid (HS.out.touch ht2 (fun e => by have := hgg.out; omega) hga.out)
          have HM2 := Lib.hid (HM.out.touch ht2 hgm.out)
          have hd2' : IsDisk w2 bd bl D' := hd2
          have HD2 : Hid (∃ D, IsDisk w2 bd bl D ∧ ApSt lF D (j + 1)) := Lib.hid ⟨D', hd2', HST'.out⟩
          clear hd hc ht2 hd2 hd2' HB HS HM
          go_wp2_with fail
          go_roundw
          case rel => exact ⟨j + 1, by omega, by go_num, HB2, HS2, HM2, HD2⟩
          case measure => have := HN.out; simp [intOf]; omega
        · have hj3 : j = 3 := by omega
          subst hj3
          have hu8 := wk.toNat_lt
          have hB : D.blown = false := HST.out.blown
          obtain ⟨nf, hnf, hnl⟩ : ∃ nf : Nat, ((wk.toNat : Int) % 8 = (nf : Int)) ∧ nf < 8 := ⟨wk.toNat % 8, by simp, by omega⟩
          have HNF := Lib.hid hnf
          have hw8 : Hid (((wk.toNat : Int)).tmod 8 = (nf : Int)) := Lib.hid (by rw [Int.tmod_eq_emod_of_nonneg (by omega)]; exact hnf)
          clear hlt hnf
          go_wp2_with fail
          rw [HNF.out]
          refine (fuse_ok bd bl D (nf : Int) wr hd hB).mono ?_; rintro e w2 ⟨rfl, ht2, hd2⟩
          have hm2 := HM.out.touch (S := fun k => k = bd) ht2 (fun x off h hl e => hgm.out x off h hl (.inl e))
          have HS2 := Lib.hid (HS.out.touch (S := fun k => k = bd) ht2 (fun e => by have := hgg.out; omega) (fun i hi x off h hl e => hga.out i hi x off h hl (.inl e)))
          have HB2 := Lib.hid (HB.out.trans (ht2.below HB.out.size (fun k hk e => by have := hgg.out; omega)))
          have hfi : ({ D with left := (nf : Int) } : Dsk).fine 18 := ⟨HST.out.fine.1, HST.out.fine.2.1, by show (nf : Int) ≤ 4294967296; omega⟩
          have HFI := Lib.hid hfi
          clear hd ht2 HB HS HM hfi
          go_wp2_with fail
          refine (put_any bd bl ({ D with left := (nf : Int) } : Dsk) ((12 : Nat) : Int) 9 ma m.length mc m 18 w2 hd2 hm2 hgm.out HFI.out (by decide) (by decide)).mono ?_; rintro e w3 ⟨rfl, ht3, hd3⟩
          have HS3 := Lib.hid (HS2.out.touch ht3 (fun e => by have := hgg.out; omega) hga.out)
          have HB3 := Lib.hid (HB2.out.trans (ht3.below HB2.out.size (fun k hk e => by have := hgg.out; omega)))
          have HBH : Hid (∀ k, (k = 0 ∨ k = 2) → (copyD ((({ D with left := (nf : Int) } : Dsk).put ((12 : Nat) : Int) 9 m).2)).get ((12 * k : Nat) : Int) = (k + 5, lF k, 0)) := Lib.hid (fun k hk => HST.out.behind (nf : Int) 9 m k hk)
          generalize (({ D with left := (nf : Int) } : Dsk).put ((12 : Nat) : Int) 9 m) = R at hd3 HBH ⊢
          clear hd2 hm2 ht3 HS2 HB2
          go_wp2_with fail
          refine (copy_disk' bd bl R.2 w3 hd3).mono ?_; rintro e w4 ⟨cd, cl, rfl, hb4, q1, q2, hd4⟩
          have HS4 := HS3.out.below hb4
          have HB4 := HB3.out.trans (hb4.mono HB3.out.size)
          generalize copyD R.2 = C at hd4 HBH
          clear hd3 HS3 HB3 hb4 q1 q2
          obtain ⟨M, hM⟩ : ∃ M, M = 4 := ⟨_, rfl⟩
          have HM4 := Lib.hid hM
          clear hM
          go_wp2_with fail
          go_loopw [13] (fun i wx => ∃ j : Nat, Hid (j = 0 ∨ j = 2 ∨ j = 4) ∧ i = .int .i64 j ∧ Hid (Below w.heap.size w wx) ∧ Hid (Bs3 wx bz aF cF lF) ∧ Hid (IsDisk wx cd cl C)) (fun i _ => M - (intOf i).toNat)
          case atStart => exact ⟨0, Lib.hid (.inl rfl), rfl, Lib.hid HB4, Lib.hid HS4, Lib.hid hd4⟩
          case round =>
            clear HB4 HS4 hd4
            obtain ⟨j, hj, rfl, HB, HS, HD⟩ := hrel
            by_cases hlt : j < 3
            · have hj2 : j = 0 ∨ j = 2 := by have := hj.out; omega
              have HG := Lib.hid (HBH.out j hj2)
              have hd := HD.out
              have e12 : Hid ((12 : Int) * (j : Int) = ((12 * j : Nat) : Int)) := Lib.hid (by push_cast; rfl)
              have hj5 : ((j + 5 : Nat) : Int) = (j : Int) + 5 := by push_cast; rfl
              have HJ5 := Lib.hid hj5
              have hjl : j ≤ 2 := by omega
              clear hj2 hj5
              go_wp2_with fail
              rw [e12.out]
              refine (get_any cd cl C ((12 * j : Nat) : Int) wr hd).mono ?_; rintro e w5 ⟨a5, rfl, hb5, hi5⟩
              rw [HG.out] at hi5 ⊢
              dsimp only at hi5 ⊢
              rw [HJ5.out]
              have HB5 := Lib.hid (HB.out.trans (hb5.mono HB.out.size))
              have HS5 := Lib.hid (HS.out.below hb5)
              have HD5 := Lib.hid (hd.touch (Touch.of_below (S := fun _ => False) hb5) id id)
              have hc5 := HS5.out.cell j (by omega)
              clear hd hb5 HB HS HD
              go_wp2_with fail
              refine (sameB_any a5 (aF j) _ _ (lF j).length (cF j) (lF j) (lF j) w5 hi5 (HS5.out.is j (by omega))).mono ?_
              rintro e w6 ⟨rfl, x, rfl⟩
              rw [decide_eq_true (rfl : lF j = lF j)]
              have hq := below_drewN (Below.refl w5.heap.size w5) x
              have HB6 := Lib.hid (HB5.out.trans (hq.mono HB5.out.size))
              have HS6 := Lib.hid (HS5.out.below hq)
              have HD6 := Lib.hid (HD5.out.touch (Touch.of_below (S := fun _ => False) hq) id id)
              clear hi5 hc5 hq HB5 HS5 HD5
              generalize w5.drewN x = w6 at HB6 HS6 HD6 ⊢
              go_wp2_with fail
              go_roundw
              case rel => exact ⟨j + 2, Lib.hid (by have := hj.out; omega), by go_num, HB6, HS6, HD6⟩
              case measure => have := HM4.out; simp [intOf]; omega
            · have hj3 : (3 : Nat) ≤ j := by omega
              go_wp2_with fail
              refine (lives_any _).mono ?_; rintro e w5 ⟨rfl, hb5⟩
              go_wp2_with fail
              go_ret
              exact ⟨rfl, HB.out.trans (hb5.mono HB.out.size)⟩

end Go.Proofs.Ythenakdfdpdknaa
