/- The statement SlotsLast; conditions: those typed. -/
import Derived.Test.YthenakdfdpdknaaSlotsTnA
namespace Go.Proofs.Ythenakdfdpdknaa
open Go.RowKit
set_option linter.unusedVariables false

structure LaSt (D : Dsk) (j : Nat) : Prop where
  good : D.good
  blown : D.blown = false
  left : D.left = -1
  fine : D.fine (12 * j)
  len : D.secs.length = 36
  n0 : (newestW D 0).1.1 ≤ j
  n12 : (newestW D 12).1.1 = j
  n24 : (newestW D 24).1.1 ≤ j
theorem LaSt.start : LaSt (newD 36) 0 :=
  ⟨newD_good 36, rfl, rfl, newD_fine 36, newD_len 36, by rw [newD_newest]; exact Nat.le_refl _, by rw [newD_newest], by rw [newD_newest]; exact Nat.le_refl _⟩
theorem LaSt.step {D : Dsk} {j : Nat} (h : LaSt D j) (hjs : j < 1000) (l o : List UInt8) (hl : l.length ≤ 320) (ho : o.length ≤ 320) : ∃ D1 D2, D.put ((12 : Nat) : Int) (j + 1) l = (0, D1) ∧ D1.fine (12 * j + 6) ∧ D1.put ((24 * (j % 2) : Nat) : Int) (j + 1) o = (0, D2) ∧ LaSt D2 (j + 1) ∧ D2.get ((12 : Nat) : Int) = (j + 1, l, 0) := by
  obtain ⟨a1, a2⟩ := put_full h.good 12 (j + 1) l (by rw [h.len]; decide) hl (by omega) (by rw [h.n12]; omega) (free_room h.blown h.left _)
  have e0 : newestW (D.put ((12 : Nat) : Int) (j + 1) l).2 0 = newestW D 0 := newestW_same 0 (fun x hx => a2.far _ (by omega))
  have e24 : newestW (D.put ((12 : Nat) : Int) (j + 1) l).2 24 = newestW D 24 := newestW_same 24 (fun x hx => a2.far _ (by omega))
  have hn := h.n0
  have hm := h.n24
  have hfi := a2.fine h.fine hl
  have hput : D.put ((12 : Nat) : Int) (j + 1) l = (0, (D.put ((12 : Nat) : Int) (j + 1) l).2) := Prod.ext a1 rfl
  generalize (D.put ((12 : Nat) : Int) (j + 1) l).2 = D1 at a2 e0 e24 hfi hput
  have hlen : D1.secs.length = 36 := a2.len.trans h.len
  have hlt : (newestW D1 (24 * (j % 2))).1.1 < j + 1 := by
    rcases (show j % 2 = 0 ∨ j % 2 = 1 by omega) with hj | hj <;> rw [hj]
    · rw [show 24 * 0 = 0 from rfl, e0]; omega
    · rw [show 24 * 1 = 24 from rfl, e24]; omega
  obtain ⟨b1, b2⟩ := put_full a2.good (24 * (j % 2)) (j + 1) o (by rw [hlen]; omega) ho (by omega) hlt (free_room a2.blown (a2.free h.left) _)
  have e12 : newestW (D1.put ((24 * (j % 2) : Nat) : Int) (j + 1) o).2 12 = newestW D1 12 := newestW_same 12 (fun x hx => b2.far _ (by omega))
  have hlen2 := b2.len.trans hlen
  refine ⟨D1, _, hput, hfi, Prod.ext b1 rfl, ⟨b2.good, b2.blown, b2.free (a2.free h.left), (b2.fine hfi ho).mono (by push_cast; omega), hlen2, ?_, by rw [e12, a2.new], ?_⟩, by rw [get_is 12 (by rw [hlen2]; decide), e12, a2.new]⟩
  · rcases (show j % 2 = 0 ∨ j % 2 = 1 by omega) with hj | hj
    · have := b2.new
      rw [hj, show 24 * 0 = 0 from rfl] at this ⊢
      rw [this]; exact Nat.le_refl _
    · have e : newestW (D1.put ((24 * (j % 2) : Nat) : Int) (j + 1) o).2 0 = newestW D1 0 := newestW_same 0 (fun x hx => b2.far _ (by omega))
      rw [e, e0]; omega
  · rcases (show j % 2 = 0 ∨ j % 2 = 1 by omega) with hj | hj
    · have e : newestW (D1.put ((24 * (j % 2) : Nat) : Int) (j + 1) o).2 24 = newestW D1 24 := newestW_same 24 (fun x hx => b2.far _ (by omega))
      rw [e, e24]; omega
    · have := b2.new
      rw [hj, show 24 * 1 = 24 from rfl] at this ⊢
      rw [this]; exact Nat.le_refl _

set_option maxRecDepth 100000 in
set_option maxHeartbeats 4000000 in
theorem slast_test (la : Option Addr) (lc : Nat) (aF : Nat → Option Addr) (cF : Nat → Nat) (L : List (List UInt8)) (ma : Option Addr) (mn mc : Nat) (m : List UInt8) (w : World) (hL : Ls w la aF cF L) (hm : IsB w ma mn mc m) :
    Calls Try.prog 3 #[.slice la L.length lc, .slice ma mn mc] w fun e w' => e = .returned (.bool true) ∧ Below w.heap.size w w' := by
  obtain rfl := hm.1
  have hlow := Lib.hid hL.low
  have hmk := Lib.hid hm.blk
  go_enter Try.func3, Try.ntmps3
  by_cases hbig : 12 < L.length ∨ 320 < m.length
  · clear hL hm
    by_cases h1 : 12 < L.length
    · have d1 : decide ((12 : Int) < (L.length : Int)) = true := decide_eq_true (by omega)
      clear h1 hbig
      go_wp2_with fail
      refine (lives_any _).mono ?_; rintro e w5 ⟨rfl, hb5⟩
      go_wp2_with fail
      go_ret
      exact ⟨rfl, hb5⟩
    have d1 : decide ((12 : Int) < (L.length : Int)) = false := decide_eq_false (by omega)
    have d2 : decide ((320 : Int) < (m.length : Int)) = true := decide_eq_true (by omega)
    clear h1 hbig
    go_wp2_with fail
    refine (lives_any _).mono ?_; rintro e w5 ⟨rfl, hb5⟩
    go_wp2_with fail
    go_ret
    exact ⟨rfl, hb5⟩
  have hL12 : L.length ≤ 12 := by omega
  have hm320 : m.length ≤ 320 := by omega
  have d1 : decide ((12 : Int) < (L.length : Int)) = false := decide_eq_false (by omega)
  have d2 : decide ((320 : Int) < (m.length : Int)) = false := decide_eq_false (by omega)
  clear hbig
  go_wp2_with fail
  refine (new_disk 36 36 w rfl (by decide) (by decide)).mono ?_; rintro e w1 ⟨bd, bl, rfl, hb1, g1, g2, hd1⟩
  have hgg : Hid (w.heap.size ≤ bd ∧ w.heap.size ≤ bl) := Lib.hid ⟨g1, g2⟩
  have hgm : Hid (∀ x off, ma = some ⟨x, off, none⟩ → m ≠ [] → ¬ (x = bd ∨ x = bl)) := Lib.hid (fun x off h hl => by have h1 := hmk.out x off h hl; have := hgg.out; omega)
  have hge : Hid (∀ i (hi : i < L.length), ∀ x off, aF i = some ⟨x, off, none⟩ → L[i] ≠ [] → ¬ (x = bd ∨ x = bl)) := Lib.hid (fun i hi x off h hl => by have h1 := hlow.out.2 i hi x off h hl; have := hgg.out; omega)
  have hSB : Hid (∀ k, (k = bd ∨ k = bl) → w.heap.size ≤ k) := Lib.hid (fun k hk => by have := hgg.out; omega)
  have HB1 := Lib.hid hb1
  have HL1 := Lib.hid (hL.below hb1)
  have HM1 := Lib.hid (hm.below hb1)
  have HD1 := Lib.hid hd1
  clear hL hm hb1 g1 g2 hd1 d1 d2
  go_wp2_with fail
  obtain ⟨N, hN⟩ : ∃ N, N = L.length := ⟨_, rfl⟩
  have HN := Lib.hid hN
  clear hN
  go_loopw [7] (fun i wx => ∃ j : Nat, j ≤ L.length ∧ i = .int .i64 j ∧ Hid (Below w.heap.size w wx) ∧ Hid (Ls wx la aF cF L) ∧ Hid (IsB wx ma m.length mc m) ∧ Hid (∃ D, IsDisk wx bd bl D ∧ LaSt D j)) (fun i _ => N - (intOf i).toNat)
  case atStart => exact ⟨0, Nat.zero_le _, rfl, HB1, HL1, HM1, Lib.hid ⟨_, HD1.out, LaSt.start⟩⟩
  case round =>
    clear HB1 HL1 HM1 HD1
    obtain ⟨j, hj, rfl, HB, HL, HM, HD⟩ := hrel
    obtain ⟨D, hd, hst⟩ := HD.out
    have HST := Lib.hid hst
    clear hst HD
    by_cases hlt : j < L.length
    · obtain ⟨lb, lo, rfl, hlb, hcl⟩ := HL.out (fun e => by rw [e] at hlt; simp at hlt)
      obtain ⟨hc, hib⟩ := hcl j hlt
      have hblk := hge.out j hlt
      have hlbw : Hid (lb < w.heap.size) := Lib.hid (hlow.out.1 lb lo rfl (fun e => by rw [e] at hlt; simp at hlt))
      generalize L[j] = l at hc hib hblk
      have e1 : Hid ((j : Int) + 1 = ((j + 1 : Nat) : Int)) := Lib.hid (by push_cast; rfl)
      clear hcl
      by_cases hbig : 320 < l.length
      · have d1 : decide ((320 : Int) < (l.length : Int)) = true := decide_eq_true (by omega)
        have HPUT := Lib.hid (put_limit (D := D) 12 (j + 1) l (by rw [HST.out.len]; decide) hbig)
        clear hbig
        go_wp2_with fail
        rw [e1.out]
        refine (put_any bd bl D ((12 : Nat) : Int) (j + 1) (aF j) l.length (cF j) l (12 * j) wr hd hib hblk HST.out.fine (by omega) (by omega)).mono ?_; rintro e w2 ⟨rfl, ht2, hd2⟩
        rw [HPUT.out]
        have HB2 := Lib.hid (HB.out.trans (ht2.below HB.out.size (fun k hk e => by have := hgg.out; omega)))
        have hc2 := ht2.cell hc (fun e => by have h1 := hlbw.out; have h2 := hSB.out lb e; omega)
        clear hd hib hblk ht2 hd2 hc
        go_wp2_with fail
        refine (lives_any _).mono ?_; rintro e w5 ⟨rfl, hb5⟩
        go_wp2_with fail
        go_ret
        exact ⟨rfl, HB2.out.trans (hb5.mono HB2.out.size)⟩
      have d1 : decide ((320 : Int) < (l.length : Int)) = false := decide_eq_false (by omega)
      obtain ⟨D1, D2, p1, pf, p2, hst2, hg⟩ := HST.out.step (by omega) l m (by omega) hm320
      have P1 := Lib.hid p1
      have PF := Lib.hid pf
      have P2 := Lib.hid p2
      have HST2 := Lib.hid hst2
      have HG := Lib.hid hg
      have e24 : Hid ((24 : Int) * ((j : Int) % 2) = ((24 * (j % 2) : Nat) : Int)) := Lib.hid (by push_cast; rfl)
      have hj24 : j % 2 < 2 := Nat.mod_lt _ (by decide)
      clear hbig p1 pf p2 hst2 hg
      go_wp2_with fail
      rw [e1.out]
      refine (put_any bd bl D ((12 : Nat) : Int) (j + 1) (aF j) l.length (cF j) l (12 * j) wr hd hib hblk HST.out.fine (by omega) (by omega)).mono ?_; rintro e w2 ⟨rfl, ht2, hd2⟩
      rw [P1.out] at hd2 ⊢
      have hd2' : IsDisk w2 bd bl D1 := hd2
      have HB2 := Lib.hid (HB.out.trans (ht2.below HB.out.size (fun k hk e => by have := hgg.out; omega)))
      have HL2 := Lib.hid (HL.out.touch ht2 w.heap.size hSB.out hlow.out.1 hlow.out.2)
      have HM2 := Lib.hid (HM.out.touch ht2 hgm.out)
      have hib2 := hib.touch ht2 hblk
      have hc2 := ht2.cell hc (fun e => by have h1 := hlbw.out; have h2 := hSB.out lb e; omega)
      clear hd hib ht2 hd2 hc HB HL HM
      go_wp2_with fail
      rw [e24.out, e1.out]
      refine (put_any bd bl D1 ((24 * (j % 2) : Nat) : Int) (j + 1) ma m.length mc m (12 * j + 6) w2 hd2' HM2.out hgm.out PF.out (by omega) (by omega)).mono ?_; rintro e w3 ⟨rfl, ht3, hd3⟩
      rw [P2.out] at hd3 ⊢
      have hd3' : IsDisk w3 bd bl D2 := hd3
      have HB3 := Lib.hid (HB2.out.trans (ht3.below HB2.out.size (fun k hk e => by have := hgg.out; omega)))
      have HL3 := Lib.hid (HL2.out.touch ht3 w.heap.size hSB.out hlow.out.1 hlow.out.2)
      have HM3 := Lib.hid (HM2.out.touch ht3 hgm.out)
      have hib3 := hib2.touch ht3 hblk
      have hc3 := ht3.cell hc2 (fun e => by have h1 := hlbw.out; have h2 := hSB.out lb e; omega)
      clear hd2' hib2 ht3 hd3 hc2 HB2 HL2 HM2
      go_wp2_with fail
      refine (get_any bd bl D2 ((12 : Nat) : Int) w3 hd3').mono ?_; rintro e w4 ⟨a4, rfl, hb4, hi4⟩
      rw [HG.out] at hi4 ⊢
      dsimp only at hi4 ⊢
      have hj1 : ((j + 1 : Nat) : Int) = (j : Int) + 1 := by push_cast; rfl
      rw [hj1]
      have HB4 := Lib.hid (HB3.out.trans (hb4.mono HB3.out.size))
      have HL4 := Lib.hid (HL3.out.below hb4)
      have HM4 := Lib.hid (HM3.out.below hb4)
      have hib4 := hib3.below hb4
      have hc4 := (hb4.cell (p := ⟨lb, lo + j, none⟩) (World.block_lt_of_cell? _ _ hc3)).trans hc3
      have HD4 := Lib.hid (hd3'.touch (Touch.of_below (S := fun _ => False) hb4) id id)
      clear hd3' hib3 hb4 hc3 HB3 HL3 HM3 hj1 hblk
      go_wp2_with fail
      refine (sameB_any a4 (aF j) _ _ l.length (cF j) l l w4 hi4 hib4).mono ?_
      rintro e w5 ⟨rfl, x, rfl⟩
      rw [decide_eq_true (rfl : l = l)]
      have hq := below_drewN (Below.refl w4.heap.size w4) x
      have HB5 := Lib.hid (HB4.out.trans (hq.mono HB4.out.size))
      have HL5 := Lib.hid (HL4.out.below hq)
      have HM5 := Lib.hid (HM4.out.below hq)
      have HD5 : Hid (∃ D, IsDisk (w4.drewN x) bd bl D ∧ LaSt D (j + 1)) := Lib.hid ⟨D2, HD4.out.touch (Touch.of_below (S := fun _ => False) hq) id id, HST2.out⟩
      clear hi4 hib4 hc4 hq HB4 HL4 HM4 HD4
      generalize w4.drewN x = w5 at HB5 HL5 HM5 HD5 ⊢
      go_wp2_with fail
      go_roundw
      case rel => exact ⟨j + 1, by omega, by go_num, HB5, HL5, HM5, HD5⟩
      case measure => have := HN.out; simp [intOf]; omega
    · have hjl : j = L.length := by omega
      subst hjl
      go_wp2_with fail
      refine (lives_any _).mono ?_; rintro e w5 ⟨rfl, hb5⟩
      go_wp2_with fail
      go_ret
      exact ⟨rfl, HB.out.trans (hb5.mono HB.out.size)⟩

end Go.Proofs.Ythenakdfdpdknaa
