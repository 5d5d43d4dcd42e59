/- The statement DisksFirst: what it returns; conditions: those typed. -/
import Derived.Test.YtolnhjjggjbckaaDisksCopy2
namespace Go.Proofs.Ytolnhjjggjbckaa
open Go.RowKit
set_option linter.unusedVariables false
set_option linter.unusedSimpArgs false

theorem rem5 (x : UInt8) : (wrap64 (x.toNat : Int)).tmod 5 = ((x.toNat % 5 : Nat) : Int) := by
  rw [u8_64, Int.tmod_eq_emod_of_nonneg (by omega)]; omega

/-- The two disks, behind t writes that were let be. -/
structure FirstSt (D C : Dsk) (f t : Nat) : Prop where
  five : D.secs.length = 5
  same : C.secs = D.secs
  tf : t ≤ f
  left : D.left = (f : Int) - t
  blown : t < f → D.blown = false
  writes : D.writes = t
  cleft : C.left = -1
  cblown : C.blown = false
  cwrites : C.writes = t

theorem FirstSt.start (f : Nat) : FirstSt ⟨List.replicate 5 zsec, f, false, 0⟩ ⟨List.replicate 5 zsec, -1, false, 0⟩ f 0 :=
  ⟨List.length_replicate, rfl, Nat.zero_le _, by simp, fun _ => rfl, rfl, rfl, rfl, rfl⟩
theorem FirstSt.good {D C : Dsk} {f t : Nat} (h : FirstSt D C f t) (n : Nat) (b : List UInt8) (hn : n < 5) (hb : b.length ≤ 64) (ht : t < f) :
    (D.write n b).1 = 0 ∧ (D.write n b).2.blown = false ∧ FirstSt (D.write n b).2 (C.write n b).2 f (t + 1) := by
  have e1 := D.write_good n b (by rw [h.left]; omega) (h.blown ht) (by rw [h.five]; exact hn) hb
  have e2 := C.write_good n b (by rw [h.cleft]; decide) h.cblown (by rw [h.same, h.five]; exact hn) hb
  rw [e1, e2]
  refine ⟨rfl, h.blown ht, ⟨by simp [h.five], by simp [h.same], by omega, ?_, fun _ => h.blown ht, by simp [h.writes], by simp [h.cleft], h.cblown, by simp [h.cwrites]⟩⟩
  have := h.left
  dsimp only
  rw [if_pos (by omega)]; omega
theorem FirstSt.bad {D C : Dsk} {f t : Nat} (h : FirstSt D C f t) (n : Nat) (b : List UInt8) (hn : n < 5) (hb : b.length ≤ 64) (ht : ¬ t < f) :
    (D.write n b).1 = 8 ∧ (D.write n b).2.blown = true ∧ FirstSt (D.write n b).2 C f t := by
  have htf := h.tf
  have hl := h.left
  have e1 : D.write n b = (8, { D with blown := true }) := by
    unfold Dsk.write
    rw [if_neg (by have := h.five; omega), if_pos (.inr (by omega))]
  rw [e1]
  exact ⟨rfl, rfl, ⟨h.five, h.same, h.tf, h.left, fun h' => absurd h' ht, h.writes, h.cleft, h.cblown, h.cwrites⟩⟩

theorem IsB.cut {w : World} {x : Addr} {n c q : Nat} {l : List UInt8} (h : IsB w (some x) n c l) (hq : q ≤ n) : IsB w (some x) q c (l.take q) := by
  obtain ⟨rfl, h2, h3, ⟨rfl, _⟩ | ⟨b, off, hx, hlt, hc⟩⟩ := h
  · obtain rfl : q = 0 := by simpa using hq
    exact ⟨rfl, Nat.zero_le _, h3, .inl ⟨rfl, fun h => by cases h⟩⟩
  · refine ⟨by simp; omega, by simp; omega, h3, .inr ⟨b, off, hx, hlt, fun i hi => ?_⟩⟩
    have hi' : i < l.length := by simp at hi; omega
    rw [hc i hi']; simp

set_option maxRecDepth 100000 in
set_option maxHeartbeats 4000000 in
theorem dfirst_main (a : Option Addr) (m c : Nat) (L : List (UInt8 × List UInt8)) (fz : UInt8) (w : World) (hL : IsWs w a m c L) (hm : L.length ≤ 100) :
    Calls Try.prog 4 #[.slice a m c, .int .u8 fz.toNat] w fun e w' => e = .returned (.bool true) ∧ Below w.heap.size w w' := by
  obtain rfl := hL.1
  have hlt1 : decide ((100 : Int) < (L.length : Int)) = false := by simp; omega
  have hfz := fz.toNat_lt
  go_enter Try.func4, Try.ntmps4
  go_wp2_with fail
  refine (alive_any w).mono ?_; rintro e w0 ⟨rfl, hb0⟩
  have hL0 := hL.below hb0
  have hs0 := hb0.size
  clear hL
  go_wp2_with fail
  refine (new_good 5 w0 (by decide) (by decide)).mono ?_; rintro e w1 ⟨bd, bl, rfl, hb1, g1, g2, hd1⟩
  have hs1 := hb1.size
  have hdl := hd1.lt
  go_wp2_with fail
  refine (new_good 5 w1 (by decide) (by decide)).mono ?_; rintro e w2 ⟨cd, cl, rfl, hb2, k1, k2, hc2⟩
  have hs2 := hb2.size
  have hcl := hc2.lt
  have hd2 := hd1.touch (Touch.of_below (S := fun _ => False) hb2) id id
  go_wp2_with fail
  refine (fuse_ok bd bl _ _ w2 hd2 rfl).mono ?_; rintro e w3 ⟨rfl, ht3, hd3⟩
  have hc3 := hc2.touch ht3 (by omega) (by omega)
  have hB3 : Below w0.heap.size w0 w3 := (hb1.trans (hb2.mono hs1)).trans (ht3.below (by omega) (fun k hk => by omega))
  clear hd1 hc2 hd2 ht3
  go_wp2_with fail
  go_loopw [9, 10] (fun v i wr => ∃ (k t : Nat) (D C : Dsk), k ≤ L.length ∧ t ≤ k ∧ i = .int .i64 k ∧ v = .int .i64 t ∧ IsDisk wr bd bl D ∧ IsDisk wr cd cl C ∧ FirstSt D C fz.toNat t ∧ Below w0.heap.size w0 wr) (fun _ i _ => L.length - (intOf i).toNat)
  case atStart => exact ⟨0, 0, _, _, Nat.zero_le _, Nat.le_refl _, rfl, rfl, hd3, hc3, FirstSt.start _, hB3⟩
  case round =>
    obtain ⟨k, t, D, C, hk, htk, rfl, rfl, hd, hc, hF, hbel⟩ := hrel
    clear hd3 hc3
    have hsz := hbel.size
    by_cases hlt : k < L.length
    · obtain ⟨_, h2, _, h3 | ⟨b, off, rfl, hblt, hcc⟩⟩ := hL0
      · rw [h3] at hlt; simp at hlt
      obtain ⟨e1', ai, ni, ci, e2', hB⟩ := hcc k hlt
      have e1 := (hbel.cell (p := ⟨b, off + k * 2, none⟩) hblt).trans e1'
      have e2 := (hbel.cell (p := ⟨b, off + k * 2 + 1, none⟩) hblt).trans e2'
      have HF := Lib.hid hF
      have hni : ni ≤ ci := by rw [hB.1]; exact hB.2.1
      have hci := hB.2.2.1
      obtain ⟨q, hq, hqn, hq64⟩ : ∃ q : Nat, (if (ni : Int) < 64 then (ni : Int) else 64) = (q : Int) ∧ q ≤ ni ∧ q ≤ 64 := by
        by_cases h : (ni : Int) < 64
        · exact ⟨ni, if_pos h, Nat.le_refl _, by omega⟩
        · exact ⟨64, if_neg h, by omega, Nat.le_refl _⟩
      have hqc : (q : Int) ≤ (ci : Int) := by omega
      have hq0 : (0 : Int) ≤ (q : Int) := by omega
      obtain ⟨bb, hbq, hb64⟩ : ∃ bb, IsB w0 ai q ci bb ∧ bb.length ≤ 64 := by
        cases ai with
        | none =>
          obtain ⟨p1, p2, p3, ⟨p4, p5⟩ | ⟨_, _, p4, _⟩⟩ := hB
          · rw [p4] at p1; simp at p1
            obtain rfl : q = 0 := by omega
            exact ⟨[], ⟨rfl, Nat.zero_le _, p3, .inl ⟨rfl, p5⟩⟩, by simp⟩
          · cases p4
        | some x => exact ⟨_, hB.cut hqn, by simp; omega⟩
      have hno : ai = none → ni = 0 ∧ ci = 0 ∧ q = 0 := by
        intro h; subst h
        obtain ⟨p1, p2, p3, ⟨p4, p5⟩ | ⟨_, _, p4, _⟩⟩ := hB
        · rw [p4] at p1; simp at p1
          exact ⟨p1, p5 rfl, by omega⟩
        · cases p4
      have HBQ := Lib.hid hbq
      have HQ := Lib.hid hq
      clear hcc hB hF hbq e1' e2'
      cases ai with
      | none =>
        obtain ⟨rfl, rfl, rfl⟩ := hno rfl
        go_wp2_with fail
        go_quiet (fail)
        go_wp2_with fail
        have hbd : Below wr.heap.size wr (wr.drewN nq) := below_drewN (Below.refl _ _) nq
        have hd5 := hd.touch (Touch.of_below (S := fun _ => False) hbd) id id
        have hc5 := hc.touch (Touch.of_below (S := fun _ => False) hbd) id id
        have hB5 : Below w0.heap.size w0 (wr.drewN nq) := hbel.trans (hbd.mono hsz)
        generalize wr.drewN nq = w5 at hbd hd5 hc5 hB5 ⊢
        have hs5 := hbd.size
        rw [rem5]
        have hwr := HF.out.writes
        have hlf := HF.out.left
        have hcw := HF.out.cwrites
        have hcf := HF.out.cleft
        refine (write_any bd bl D _ _ _ _ _ _ hd5 (HBQ.out.below hB5) ⟨by omega, by omega, by omega⟩).mono ?_; rintro e w6 ⟨rfl, ht6, hd6⟩
        have hs6 := ht6.size
        have hc6 := hc5.touch ht6 (by omega) (by omega)
        have hB6 : Below w0.heap.size w0 w6 := hB5.trans (ht6.below (by omega) (fun k hk => by omega))
        by_cases ht : t < fz.toNat
        · obtain ⟨r1, r2, r3⟩ := HF.out.good (L[k].1.toNat % 5) bb (by omega) hb64 ht
          rw [r1]
          have R3 := Lib.hid r3
          have R2 := Lib.hid r2
          have hdt : decide ((t : Int) < (fz.toNat : Int)) = true := by simp; exact ht
          clear r1 r2 r3
          go_wp2_with fail
          refine (blown_disk bd bl _ w6 hd6).mono ?_; rintro e w' ⟨rfl, rfl⟩
          rw [R2.out]
          go_wp2_with fail
          refine (write_any cd cl C _ _ _ _ _ _ hc6 (HBQ.out.below hB6) ⟨by omega, by omega, by omega⟩).mono ?_; rintro e w7 ⟨rfl, ht7, hc7⟩
          have hd7 := hd6.touch ht7 (by omega) (by omega)
          have hB7 : Below w0.heap.size w0 w7 := hB6.trans (ht7.below (by omega) (fun k hk => by omega))
          go_wp2_with fail
          go_roundw
          case rel => exact ⟨k + 1, t + 1, _, _, by omega, by omega, by go_num, by go_num, hd7, hc7, R3.out, hB7⟩
          case measure => simp [intOf]; omega
        · obtain ⟨r1, r2, r3⟩ := HF.out.bad (L[k].1.toNat % 5) bb (by omega) hb64 ht
          rw [r1]
          have R3 := Lib.hid r3
          have R2 := Lib.hid r2
          have hdt : decide ((t : Int) < (fz.toNat : Int)) = false := by simpa using ht
          clear r1 r2 r3
          go_wp2_with fail
          refine (blown_disk bd bl _ w6 hd6).mono ?_; rintro e w' ⟨rfl, rfl⟩
          rw [R2.out]
          go_wp2_with fail
          go_roundw
          case rel => exact ⟨k + 1, t, _, _, by omega, by omega, by go_num, rfl, hd6, hc6, R3.out, hB6⟩
          case measure => simp [intOf]; omega
      | some x =>
        clear hno
        go_wp2_with fail
        go_quiet (fail)
        go_wp2_with fail
        have hbd : Below wr.heap.size wr (wr.drewN nq) := below_drewN (Below.refl _ _) nq
        have hd5 := hd.touch (Touch.of_below (S := fun _ => False) hbd) id id
        have hc5 := hc.touch (Touch.of_below (S := fun _ => False) hbd) id id
        have hB5 : Below w0.heap.size w0 (wr.drewN nq) := hbel.trans (hbd.mono hsz)
        generalize wr.drewN nq = w5 at hbd hd5 hc5 hB5 ⊢
        have hs5 := hbd.size
        rw [rem5]
        have hwr := HF.out.writes
        have hlf := HF.out.left
        have hcw := HF.out.cwrites
        have hcf := HF.out.cleft
        refine (write_any bd bl D _ _ _ _ _ _ hd5 (HBQ.out.below hB5) ⟨by omega, by omega, by omega⟩).mono ?_; rintro e w6 ⟨rfl, ht6, hd6⟩
        have hs6 := ht6.size
        have hc6 := hc5.touch ht6 (by omega) (by omega)
        have hB6 : Below w0.heap.size w0 w6 := hB5.trans (ht6.below (by omega) (fun k hk => by omega))
        by_cases ht : t < fz.toNat
        · obtain ⟨r1, r2, r3⟩ := HF.out.good (L[k].1.toNat % 5) bb (by omega) hb64 ht
          rw [r1]
          have R3 := Lib.hid r3
          have R2 := Lib.hid r2
          have hdt : decide ((t : Int) < (fz.toNat : Int)) = true := by simp; exact ht
          clear r1 r2 r3
          go_wp2_with fail
          refine (blown_disk bd bl _ w6 hd6).mono ?_; rintro e w' ⟨rfl, rfl⟩
          rw [R2.out]
          go_wp2_with fail
          refine (write_any cd cl C _ _ _ _ _ _ hc6 (HBQ.out.below hB6) ⟨by omega, by omega, by omega⟩).mono ?_; rintro e w7 ⟨rfl, ht7, hc7⟩
          have hd7 := hd6.touch ht7 (by omega) (by omega)
          have hB7 : Below w0.heap.size w0 w7 := hB6.trans (ht7.below (by omega) (fun k hk => by omega))
          go_wp2_with fail
          go_roundw
          case rel => exact ⟨k + 1, t + 1, _, _, by omega, by omega, by go_num, by go_num, hd7, hc7, R3.out, hB7⟩
          case measure => simp [intOf]; omega
        · obtain ⟨r1, r2, r3⟩ := HF.out.bad (L[k].1.toNat % 5) bb (by omega) hb64 ht
          rw [r1]
          have R3 := Lib.hid r3
          have R2 := Lib.hid r2
          have hdt : decide ((t : Int) < (fz.toNat : Int)) = false := by simpa using ht
          clear r1 r2 r3
          go_wp2_with fail
          refine (blown_disk bd bl _ w6 hd6).mono ?_; rintro e w' ⟨rfl, rfl⟩
          rw [R2.out]
          go_wp2_with fail
          go_roundw
          case rel => exact ⟨k + 1, t, _, _, by omega, by omega, by go_num, rfl, hd6, hc6, R3.out, hB6⟩
          case measure => simp [intOf]; omega
    · have hkk : k = L.length := by omega
      subst hkk
      go_wp2_with fail
      refine (writes_disk bd bl D wr hd).mono ?_; rintro e w' ⟨rfl, rfl⟩
      rw [hF.writes]
      go_wp2_with fail
      refine (all_disk bd bl D wr hd).mono ?_; rintro e w5 ⟨oa, oc, rfl, hb5, A1⟩
      have hs5 := hb5.size
      have hc5 := hc.touch (Touch.of_below (S := fun _ => False) hb5) id id
      have h5 := hF.five
      have h5' : C.secs.length = 5 := by rw [hF.same, h5]
      have hsame := hF.same
      clear hF
      rw [h5] at A1 ⊢
      go_wp2_with fail
      refine (all_disk cd cl C w5 hc5).mono ?_; rintro e w6 ⟨na, nc, rfl, hb6, A2⟩
      have hs6 := hb6.size
      have B1 := A1.below hb6
      rw [h5'] at A2 ⊢
      go_wp2_with fail
      refine (sameBs_any _ _ _ _ _ _ _ _ _ _ w6 B1 A2).mono ?_; rintro e w7 ⟨rfl, j, rfl⟩
      rw [decide_eq_true hsame.symm]
      go_wp2_with fail
      go_ret
      exact ⟨rfl, hb0.trans ((((hbel.trans (hb5.mono hsz)).trans (hb6.mono (by omega))).trans ((below_drewN (Below.refl _ _) j).mono (by omega))).mono hs0)⟩

end Go.Proofs.Ytolnhjjggjbckaa
