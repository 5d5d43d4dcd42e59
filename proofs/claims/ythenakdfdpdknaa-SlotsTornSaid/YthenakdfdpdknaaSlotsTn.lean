/- The statement SlotsTorn; conditions: those typed. -/
import Derived.Test.YthenakdfdpdknaaSlotsTnA
namespace Go.Proofs.Ythenakdfdpdknaa
open Go.RowKit
set_option linter.unusedVariables false

/-- The statement's own variables. -/
structure TnV (w : World) (bz : Nat) (la : Option Addr) (lc : Nat) (aF : Nat → Option Addr) (cF : Nat → Nat) (L : List (List UInt8)) (ma : Option Addr) (mc : Nat) (m : List UInt8) (wk : UInt8) : Prop where
  z : w.heap[bz]? = some (.cells #[.slice la L.length lc, .slice ma m.length mc, .int .u8 wk.toNat] 40 (0, 0))
  ls : Ls w la aF cF L
  m : IsB w ma m.length mc m
theorem TnV.below {w w' : World} {bz : Nat} {la : Option Addr} {lc : Nat} {aF : Nat → Option Addr} {cF : Nat → Nat} {L : List (List UInt8)} {ma : Option Addr} {mc : Nat} {m : List UInt8} {wk : UInt8} (h : TnV w bz la lc aF cF L ma mc m wk) (hb : Below w.heap.size w w') : TnV w' bz la lc aF cF L ma mc m wk :=
  ⟨below_heap hb h.z (lt_of_heap h.z), h.ls.below hb, h.m.below hb⟩
theorem TnV.touch {S : Nat → Prop} {w w' : World} {bz : Nat} {la : Option Addr} {lc : Nat} {aF : Nat → Option Addr} {cF : Nat → Nat} {L : List (List UInt8)} {ma : Option Addr} {mc : Nat} {m : List UInt8} {wk : UInt8} (h : TnV w bz la lc aF cF L ma mc m wk) (ht : Touch S w w') (B : Nat) (hB : ∀ k, S k → B ≤ k) (hz : ¬ S bz) (hl : LsLow B la aF L) (hm : ∀ x off, ma = some ⟨x, off, none⟩ → m ≠ [] → x < B) : TnV w' bz la lc aF cF L ma mc m wk :=
  ⟨ht.heap h.z hz, h.ls.touch ht B hB hl.1 hl.2, h.m.touch ht (fun x off ha hl e => by have h1 := hB x e; have h2 := hm x off ha hl; omega)⟩
theorem TnV.cells {w : World} {bz : Nat} {la : Option Addr} {lc : Nat} {aF : Nat → Option Addr} {cF : Nat → Nat} {L : List (List UInt8)} {ma : Option Addr} {mc : Nat} {m : List UInt8} {wk : UInt8} (h : TnV w bz la lc aF cF L ma mc m wk) :
    w.cell? ⟨bz, 0, none⟩ = some (.slice la L.length lc) ∧ w.cell? ⟨bz, 1, none⟩ = some (.slice ma m.length mc) ∧ w.cell? ⟨bz, 2, none⟩ = some (.int .u8 wk.toNat) := by
  refine ⟨?_, ?_, ?_⟩ <;> rw [cell_of_block h.z] <;> rfl

set_option maxRecDepth 100000 in
set_option maxHeartbeats 4000000 in
theorem storn_test (la : Option Addr) (lc : Nat) (aF : Nat → Option Addr) (cF : Nat → Nat) (L : List (List UInt8)) (ma : Option Addr) (mn mc : Nat) (m : List UInt8) (wk : UInt8) (w : World) (hL : Ls w la aF cF L) (hm : IsB w ma mn mc m) :
    Calls Try.prog 5 #[.agg #[.slice la L.length lc, .slice ma mn mc, .int .u8 wk.toNat]] w fun e w' => e = .returned (.bool true) ∧ Below w.heap.size w w' := by
  obtain rfl := hm.1
  have hbe : Below w.heap.size w (w.alloc (.cells #[.slice la L.length lc, .slice ma m.length mc, .int .u8 wk.toNat] 40)) := (Below.refl _ _).alloc (Nat.le_refl _) _
  have hv : TnV (w.alloc (.cells #[.slice la L.length lc, .slice ma m.length mc, .int .u8 wk.toNat] 40)) w.heap.size la lc aF cF L ma mc m wk := ⟨heap_new w _, hL.below hbe, hm.below hbe⟩
  have hlow := Lib.hid hL.low
  have hmk := Lib.hid hm.blk
  clear hL hm
  go_enter Try.func5, Try.ntmps5
  by_cases hbig : 6 < L.length ∨ 320 < m.length
  · have HBE := Lib.hid hbe
    clear hv hbe
    by_cases h1 : 6 < L.length
    · have d1 : decide ((6 : Int) < (L.length : Int)) = true := decide_eq_true (by omega)
      clear h1 hbig
      go_wp2_with fail
      refine (lives_any _).mono ?_; rintro e w5 ⟨rfl, hb5⟩
      go_wp2_with fail
      go_ret
      exact ⟨rfl, HBE.out.trans (hb5.mono HBE.out.size)⟩
    have d1 : decide ((6 : Int) < (L.length : Int)) = false := decide_eq_false (by omega)
    have d2 : decide ((320 : Int) < (m.length : Int)) = true := decide_eq_true (by omega)
    clear h1 hbig
    go_wp2_with fail
    refine (lives_any _).mono ?_; rintro e w5 ⟨rfl, hb5⟩
    go_wp2_with fail
    go_ret
    exact ⟨rfl, HBE.out.trans (hb5.mono HBE.out.size)⟩
  have hL6 : L.length ≤ 6 := by omega
  have hm320 : m.length ≤ 320 := by omega
  have d1 : decide ((6 : Int) < (L.length : Int)) = false := decide_eq_false (by omega)
  have d2 : decide ((320 : Int) < (m.length : Int)) = false := decide_eq_false (by omega)
  clear hbig
  have HV0 := Lib.hid hv
  have HBE := Lib.hid hbe
  clear hv hbe
  go_wp2_with fail
  generalize w.alloc (.cells #[.slice la L.length lc, .slice ma m.length mc, .int .u8 wk.toNat] 40) = w0 at HBE HV0 ⊢
  obtain ⟨bz, hbz⟩ : ∃ bz, bz = w.heap.size := ⟨_, rfl⟩
  rw [← hbz] at HV0 ⊢
  have hz0 : bz < w0.heap.size := lt_of_heap HV0.out.z
  have HV := HV0
  have HBZ := Lib.hid hbz
  clear hbz HV0
  refine (new_disk 12 12 w0 rfl (by decide) (by decide)).mono ?_; rintro e w1 ⟨bd, bl, rfl, hb1, g1, g2, hd1⟩
  have hv1 := HV.out.below hb1
  have hb1' := HBE.out.trans (hb1.mono HBE.out.size)
  have hgg : Hid (w.heap.size ≤ bd ∧ w.heap.size ≤ bl ∧ bz ≠ bd ∧ bz ≠ bl) := Lib.hid (by have := HBE.out.size; omega)
  have hgm : Hid (∀ x off, ma = some ⟨x, off, none⟩ → m ≠ [] → ¬ (x = bd ∨ x = bl)) := Lib.hid (fun x off h hl => by have h1 := hmk.out x off h hl; have := hgg.out; omega)
  have hge : Hid (∀ i (hi : i < L.length), ∀ x off, aF i = some ⟨x, off, none⟩ → L[i] ≠ [] → ¬ (x = bd ∨ x = bl)) := Lib.hid (fun i hi x off h hl => by have h1 := hlow.out.2 i hi x off h hl; have := hgg.out; omega)
  have hSB : Hid (∀ k, (k = bd ∨ k = bl) → w.heap.size ≤ k) := Lib.hid (fun k hk => by have := hgg.out; omega)
  clear hb1 g1 g2 HV HBE d1 d2 hz0
  go_wp2_with fail
  have HV1 := Lib.hid hv1
  have HB1 := Lib.hid hb1'
  have HD1 := Lib.hid hd1
  obtain ⟨N, hN⟩ : ∃ N, N = L.length := ⟨_, rfl⟩
  have HN := Lib.hid hN
  clear hN hv1 hb1' hd1
  go_loopw [6, 5] (fun i s wx => ∃ j : Nat, ∃ wa wn wc, j ≤ L.length ∧ i = .int .i64 j ∧ s = .slice wa wn wc ∧ Hid (Below w.heap.size w wx) ∧ Hid (TnV wx bz la lc aF cF L ma mc m wk) ∧ Hid (IsB wx wa wn wc (lastL L j) ∧ ∀ x off, wa = some ⟨x, off, none⟩ → lastL L j ≠ [] → x < w.heap.size) ∧ Hid (∃ D, IsDisk wx bd bl D ∧ TnSt L D j)) (fun i _ _ => N - (intOf i).toNat)
  case atStart => exact ⟨0, none, 0, 0, Nat.zero_le _, rfl, rfl, HB1, HV1, Lib.hid ⟨IsB.nil _, fun x off h => by cases h⟩, Lib.hid ⟨_, HD1.out, TnSt.start L⟩⟩
  case round =>
    clear HV1 HB1 HD1
    obtain ⟨j, wa, wn, wc, hj, rfl, rfl, HB, HV, HW, HD⟩ := hrel
    obtain ⟨D, hd, hst⟩ := HD.out
    have HST := Lib.hid hst
    clear hst HD
    obtain ⟨c0, c1, c2⟩ := HV.out.cells
    by_cases hlt : j < L.length
    · obtain ⟨lb, lo, rfl, hlb, hcl⟩ := HV.out.ls (fun e => by rw [e] at hlt; simp at hlt)
      obtain ⟨hc, hib⟩ := hcl j hlt
      have hblk := hge.out j hlt
      have hblw := hlow.out.2 j hlt
      have hlast : Hid (lastL L (j + 1) = L[j]) := Lib.hid (by show L.getD j [] = _; simp [hlt])
      have hstep := HST.out.step hlt (by omega)
      have HSTEP := Lib.hid hstep
      generalize L[j] = l at hc hib hblk hblw hlast HSTEP
      clear hcl hstep
      by_cases hbig : 320 < l.length
      · have d1 : decide ((320 : Int) < (l.length : Int)) = true := decide_eq_true (by omega)
        clear hbig hib hblk hblw
        go_wp2_with fail
        refine (lives_any _).mono ?_; rintro e w5 ⟨rfl, hb5⟩
        go_wp2_with fail
        go_ret
        exact ⟨rfl, HB.out.trans (hb5.mono HB.out.size)⟩
      have d1 : decide ((320 : Int) < (l.length : Int)) = false := decide_eq_false (by omega)
      obtain ⟨D', hput, hst'⟩ := HSTEP.out (by omega)
      have HPUT := Lib.hid hput
      have HST' := Lib.hid hst'
      have e1 : Hid ((j : Int) + 1 = ((j + 1 : Nat) : Int)) := Lib.hid (by push_cast; rfl)
      clear hput hst' hbig HSTEP
      go_wp2_with fail
      rw [e1.out]
      refine (put_any bd bl D ((0 : Nat) : Int) (j + 1) (aF j) l.length (cF j) l (6 * j) wr hd hib hblk HST.out.fine (by omega) (by omega)).mono ?_; rintro e w2 ⟨rfl, ht2, hd2⟩
      rw [HPUT.out] at hd2 ⊢
      have hd2' : IsDisk w2 bd bl D' := hd2
      have HB2 := Lib.hid (HB.out.trans (ht2.below HB.out.size (fun k hk e => by have := hgg.out; omega)))
      have HV2 := Lib.hid (HV.out.touch ht2 w.heap.size hSB.out (fun e => by have := hgg.out; omega) hlow.out hmk.out)
      have HW2 : Hid (IsB w2 (aF j) l.length (cF j) (lastL L (j + 1)) ∧ ∀ x off, aF j = some ⟨x, off, none⟩ → lastL L (j + 1) ≠ [] → x < w.heap.size) := Lib.hid (by rw [hlast.out]; exact ⟨hib.touch ht2 hblk, hblw⟩)
      have HD2 : Hid (∃ D, IsDisk w2 bd bl D ∧ TnSt L D (j + 1)) := Lib.hid ⟨D', hd2', HST'.out⟩
      have hc2 := ht2.cell hc (fun e => by have h1 := hlow.out.1 lb lo rfl (fun e => by rw [e] at hlt; simp at hlt); have h2 := hSB.out _ e; dsimp only at h2; omega)
      clear hd hib hblk hblw ht2 hd2 hd2' HB HV HW c0 c1 c2 hc
      obtain ⟨c0, c1, c2⟩ := HV2.out.cells
      go_wp2_with fail
      go_roundw
      case rel => exact ⟨j + 1, aF j, l.length, cF j, by omega, by go_num, rfl, HB2, HV2, HW2, HD2⟩
      case measure => have := HN.out; simp [intOf]; omega
    · have hjl : j = L.length := by omega
      subst hjl
      have hu8 := wk.toNat_lt
      have hB : D.blown = false := HST.out.blown
      obtain ⟨nf, hnf, hnl⟩ : ∃ nf : Nat, ((wk.toNat : Int) % 8 = (nf : Int)) ∧ nf < 8 := ⟨wk.toNat % 8, by simp, by omega⟩
      obtain ⟨ned, hned, hned2, hned3⟩ : ∃ ned : Nat, ned = secsOf m + 1 ∧ ((m.length : Int) + 63) / 64 + 1 = (ned : Int) ∧ ned < 8 := ⟨_, rfl, by unfold secsOf; push_cast; omega, by unfold secsOf; omega⟩
      have HNF := Lib.hid hnf
      have HNE := Lib.hid hned2
      obtain ⟨R, hR⟩ : ∃ R, R = ({ D with left := (nf : Int) } : Dsk).put ((0 : Nat) : Int) (L.length + 1) m := ⟨_, rfl⟩
      have HC : Hid (∃ fe gn gb, R.1 = fe ∧ (copyD R.2).get ((0 : Nat) : Int) = (gn, gb, 0) ∧ ((ned ≤ nf ∧ fe = 0 ∧ gn = L.length + 1 ∧ gb = m) ∨ (nf < ned ∧ fe = 8 ∧ gn = L.length ∧ gb = lastL L L.length ∧ ((copyD R.2).put ((0 : Nat) : Int) (L.length + 1) m).1 = 0))) := Lib.hid (by
        by_cases hn : secsOf m + 1 ≤ nf
        · obtain ⟨D', h1, h2⟩ := HST.out.whole (by omega) m hm320 nf hn
          rw [hR, h1]
          exact ⟨0, _, _, rfl, h2, .inl ⟨by omega, rfl, rfl, rfl⟩⟩
        · obtain ⟨D', h1, h2, h3⟩ := HST.out.torn (by omega) m hm320 nf (by omega)
          rw [hR, h1]
          exact ⟨8, _, _, rfl, h2, .inr ⟨by omega, rfl, rfl, rfl, h3⟩⟩)
      have e1 : Hid ((L.length : Int) + 1 = ((L.length + 1 : Nat) : Int)) := Lib.hid (by push_cast; rfl)
      have HRE := Lib.hid hR
      have hfi : ({ D with left := (nf : Int) } : Dsk).fine 36 := ⟨HST.out.fine.1, by have := HST.out.fine.2.1; show D.writes ≤ 36; omega, by show (nf : Int) ≤ 4294967296; omega⟩
      have HFI := Lib.hid hfi
      clear hlt hnf hned hned2 hR hfi
      go_wp2_with fail
      rw [HNF.out]
      refine (fuse_ok bd bl D (nf : Int) wr hd hB).mono ?_; rintro e w2 ⟨rfl, ht2, hd2⟩
      have HV2 := Lib.hid (HV.out.touch (S := fun k => k = bd) ht2 w.heap.size (fun k hk => hSB.out k (.inl hk)) (fun e => by have := hgg.out; omega) hlow.out hmk.out)
      have HB2 := Lib.hid (HB.out.trans (ht2.below HB.out.size (fun k hk e => by have := hgg.out; omega)))
      have HW2 := Lib.hid (HW.out.1.touch (S := fun k => k = bd) ht2 (fun x off ha hl e => by have h1 := HW.out.2 x off ha hl; have := hgg.out; omega))
      have HWl : Hid (∀ x off, wa = some ⟨x, off, none⟩ → lastL L L.length ≠ [] → x < w.heap.size) := Lib.hid HW.out.2
      obtain ⟨c0, c1, c2⟩ := HV2.out.cells
      clear hd ht2 HB HV HW
      go_wp2_with fail
      rw [e1.out]
      refine (put_any bd bl ({ D with left := (nf : Int) } : Dsk) ((0 : Nat) : Int) (L.length + 1) ma m.length mc m 36 w2 hd2 HV2.out.m hgm.out HFI.out (by decide) (by omega)).mono ?_; rintro e w3 ⟨rfl, ht3, hd3⟩
      rw [← HRE.out] at hd3 ⊢
      have HV3 := Lib.hid (HV2.out.touch ht3 w.heap.size hSB.out (fun e => by have := hgg.out; omega) hlow.out hmk.out)
      have HB3 := Lib.hid (HB2.out.trans (ht3.below HB2.out.size (fun k hk e => by have := hgg.out; omega)))
      have HW3 := Lib.hid (HW2.out.touch ht3 (fun x off ha hl e => by have h1 := HWl.out x off ha hl; have h2 := hSB.out x e; omega))
      obtain ⟨fe, gn, gb, hfe, hget, hcase⟩ := HC.out
      rw [hfe]
      have HG := Lib.hid hget
      have HCA := Lib.hid hcase
      clear hd2 ht3 HB2 HV2 HW2 c0 c1 c2 HC HRE hfe hget hcase
      go_wp2_with fail
      refine (copy_disk' bd bl R.2 w3 hd3).mono ?_; rintro e w4 ⟨cd, cl, rfl, hb4, q1, q2, hd4⟩
      have HV4 := Lib.hid (HV3.out.below hb4)
      have HB4 := Lib.hid (HB3.out.trans (hb4.mono HB3.out.size))
      have HW4 := Lib.hid (HW3.out.below hb4)
      have hcc : Hid (w.heap.size ≤ cd ∧ w.heap.size ≤ cl) := Lib.hid (by have := HB3.out.size; omega)
      have hCf : Hid ((copyD R.2).fine 0) := Lib.hid ⟨by show (0 : Int) ≤ 0; decide, by show (0 : Int) ≤ 0; decide, by show (-1 : Int) ≤ _; decide⟩
      generalize copyD R.2 = C at hd4 HG HCA hCf
      clear hd3 hb4 q1 q2 HV3 HB3 HW3
      go_wp2_with fail
      refine (get_any cd cl C ((0 : Nat) : Int) w4 hd4).mono ?_; rintro e w5 ⟨a5, rfl, hb5, hi5⟩
      rw [HG.out] at hi5 ⊢
      dsimp only at hi5 ⊢
      have HV5 := Lib.hid (HV4.out.below hb5)
      have HB5 := Lib.hid (HB4.out.trans (hb5.mono HB4.out.size))
      have HW5 := Lib.hid (HW4.out.below hb5)
      have hd5 := hd4.touch (Touch.of_below (S := fun _ => False) hb5) id id
      obtain ⟨c0, c1, c2⟩ := HV5.out.cells
      clear hd4 hb5 HV4 HB4 HW4
      rw [HNE.out]
      rcases HCA.out with ⟨q1, rfl, rfl, rfl⟩ | ⟨q1, rfl, rfl, hgb, q5⟩
      · have d3 : decide (ned ≤ nf) = true := decide_eq_true q1
        clear q1 HCA HG HW5 hd5
        have hi5' : IsB w5 a5 gb.length gb.length gb := hi5
        go_wp2_with fail
        refine (sameB_any a5 ma _ _ gb.length mc gb gb w5 hi5' HV5.out.m).mono ?_
        rintro e w6 ⟨rfl, x, rfl⟩
        rw [decide_eq_true (rfl : gb = gb)]
        have HB6 := Lib.hid (HB5.out.trans ((below_drewN (Below.refl w5.heap.size w5) x).mono HB5.out.size))
        clear hi5 hi5' c0 c1 c2 HV5 HB5
        generalize w5.drewN x = w6 at HB6 ⊢
        go_wp2_with fail
        refine (lives_any _).mono ?_; rintro e w7 ⟨rfl, hb7⟩
        go_wp2_with fail
        go_ret
        exact ⟨rfl, HB6.out.trans (hb7.mono HB6.out.size)⟩
      · have d3 : decide (ned ≤ nf) = false := decide_eq_false (by omega)
        have Q5 := Lib.hid q5
        clear q1 q5 HCA HG
        have hw5 := HW5.out
        rw [← hgb] at hw5
        obtain rfl := hw5.1
        have hi5' : IsB w5 a5 gb.length gb.length gb := hi5
        clear hgb HW5
        go_wp2_with fail
        refine (sameB_any a5 wa _ _ gb.length wc gb gb w5 hi5' hw5).mono ?_
        rintro e w6 ⟨rfl, x, rfl⟩
        rw [decide_eq_true (rfl : gb = gb)]
        have hq := below_drewN (Below.refl w5.heap.size w5) x
        have HB6 := Lib.hid (HB5.out.trans (hq.mono HB5.out.size))
        have HV6 := Lib.hid (HV5.out.below hq)
        have hd6 := hd5.touch (Touch.of_below (S := fun _ => False) hq) id id
        clear hi5 hi5' c0 c1 c2 HV5 HB5 hw5 hd5 hq
        generalize w5.drewN x = w6 at HB6 HV6 hd6 ⊢
        obtain ⟨c0, c1, c2⟩ := HV6.out.cells
        go_wp2_with fail
        rw [e1.out]
        refine (put_any cd cl C ((0 : Nat) : Int) (L.length + 1) ma m.length mc m 0 w6 hd6 HV6.out.m (fun x off h hl => by have h1 := hmk.out x off h hl; have := hcc.out; omega) hCf.out (by decide) (by omega)).mono ?_; rintro e w7 ⟨rfl, ht7, hd7⟩
        rw [Q5.out]
        have HB7 := Lib.hid (HB6.out.trans (ht7.below HB6.out.size (fun k hk e => by have := hcc.out; omega)))
        clear hd6 hd7 ht7 HV6 HB6 c0 c1 c2
        go_wp2_with fail
        refine (lives_any _).mono ?_; rintro e w8 ⟨rfl, hb8⟩
        go_wp2_with fail
        go_ret
        exact ⟨rfl, HB7.out.trans (hb8.mono HB7.out.size)⟩

end Go.Proofs.Ythenakdfdpdknaa
