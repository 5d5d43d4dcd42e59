/- The statement SlotsPlay: what it returns; conditions: those typed. -/
import Derived.Test.YthenakdfdpdknaaGreatDoorM4
import Derived.Laws.OwnMore
import Derived.Deep.Fields
import Derived.Lib.SmallJoins
import Derived.Test.YthenakdfdpdknaaGreatDoorRows
import Derived.Deep.Slices
import Derived.Test.YthenakdfdpdknaaGreatDoorTie
import Derived.Test.YthenakdfdpdknaaGreatDoorCards
import Derived.SevenTiedAt
import Derived.Deep.DeepHandedRow
import Derived.LaidMore
import Derived.Stop.Joined
namespace Go.Proofs.YthenakdfdpdknaaGreatDoor
open Go.RowKit
set_option linter.unusedVariables false
set_option linter.unusedSimpArgs false
set_option maxRecDepth 100000

theorem sizeActS : (Tryz.prog.info? 26).map (·.size) = some 5 := by kernel_rfl
theorem zeroBook : (Tryz.prog.info? 46).map (·.zero) = some (some (.agg (bookC 0 (.slice none 0 0)))) := by kernel_rfl
theorem Bk.old_own {w w' : World} {B bk N n c : Nat} {bs : Value} {H : List Hl} {a : Option Addr} {l : List UInt8} (h : Bk w B bk N bs H) (ho : w'.ownsRow w.heap.size 5 1 (.slice a n c) n (bcells l)) : ∀ i (hi : i < H.length), ∀ g', H[i].l.a = some ⟨g', 0, none⟩ → (Hd.mk a n n).a ≠ some ⟨g', 0, none⟩ := fun i hi g' e e2 => by
  have hge := new_own ho (show a = some ⟨g', 0, none⟩ from e2)
  obtain ⟨cur, s, _⟩ := h.ok i hi
  rcases s with ⟨s, _⟩ | ⟨g2, s, hc, _⟩
  · rw [s] at e; cases e
  · rw [s] at e; cases e
    have := lt_of_heap hc
    omega
theorem Dsk.fine.fuse {D : Dsk} {k : Int} (h : D.fine k) {n : Int} (hn : n ≤ 9) : (if D.blown then D else { D with left := n }).fine k := by
  split
  · exact h
  · exact ⟨h.1, h.2.1, by dsimp only; omega⟩
/-- The act's box. -/
def BxS (w : World) (hx : Nat) (kd xat xm : Int) (ai : Option Addr) (ni ci : Nat) (xn : Int) : Prop := w.heap[hx]? = some (.cells #[.int .u8 kd, .int .i64 xat, .int .u32 xm, .slice ai ni ci, .int .i64 xn] 26 (0, 0))
theorem BxS.get {w : World} {hx : Nat} {kd xat xm : Int} {ai : Option Addr} {ni ci : Nat} {xn : Int} (h : BxS w hx kd xat xm ai ni ci xn) : w.cell? ⟨hx, 0, none⟩ = some (.int .u8 kd) ∧ w.cell? ⟨hx, 1, none⟩ = some (.int .i64 xat) ∧ w.cell? ⟨hx, 2, none⟩ = some (.int .u32 xm) ∧ w.cell? ⟨hx, 3, none⟩ = some (.slice ai ni ci) ∧ w.cell? ⟨hx, 4, none⟩ = some (.int .i64 xn) := by
  refine ⟨?_, ?_, ?_, ?_, ?_⟩ <;> (rw [cell_of_block h]; rfl)
theorem BxS.touch {S : Nat → Prop} {w w' : World} {hx : Nat} {kd xat xm : Int} {ai : Option Addr} {ni ci : Nat} {xn : Int} (h : BxS w hx kd xat xm ai ni ci xn) (ht : Touch S w w') (hs : ¬ S hx) : BxS w' hx kd xat xm ai ni ci xn := ht.heap h hs
theorem BxS.below {w w' : World} {hx : Nat} {kd xat xm : Int} {ai : Option Addr} {ni ci : Nat} {xn : Int} (h : BxS w hx kd xat xm ai ni ci xn) (hb : Below w.heap.size w w') : BxS w' hx kd xat xm ai ni ci xn := below_heap hb h (lt_of_heap h)

set_option maxHeartbeats 16000000 in
theorem slotsPlay_any (s : Nat) (hs : s < 256) (a : Option Addr) (m c : Nat) (L : List ActS) (w : World) (h : IsActS w a m c L) (h1 : L.length ≤ 1048576) (h2 : ∀ x ∈ L, x.b.length ≤ 1048576) :
    Calls Tryz.prog 3 #[.int .u8 s, .slice a m c] w fun e w' => e = .returned (.bool true) ∧ Below w.heap.size w w' := by
  have H0 := Lib.hid h
  have H2 := Lib.hid h2
  obtain rfl := h.1
  clear h h2
  have hs40 : (s : Int) % 40 < 40 := by omega
  go_enter Tryz.func3, Tryz.ntmps3
  go_wp2_with fail
  obtain ⟨M, hM⟩ : ∃ M, M = L.length := ⟨_, rfl⟩
  have HM := Lib.hid hM
  go_loopw [5, 6] (fun n i wr => ∃ k g : Nat, k ≤ M ∧ i = .int .i64 k ∧ n = .int .i64 g ∧ Hid (g = ssum (L.take k)) ∧ wr = w) (fun n i _ => M - (intOf i).toNat)
  case atStart => exact ⟨0, 0, Nat.zero_le _, rfl, rfl, Lib.hid rfl, rfl⟩
  case round =>
    obtain ⟨k, g, hk, rfl, rfl, HG, rfl⟩ := hrel
    have hg : g ≤ 50000000000 := by
      have := ssum_le (L.take k) (fun x hx => H2.out x (List.mem_of_mem_take hx))
      rw [← HG.out] at this
      simp at this
      omega
    by_cases hlt : k < L.length
    · obtain ⟨_, _, _, h3 | ⟨b, off, rfl, hblt, hc⟩⟩ := H0.out
      · rw [h3] at hlt; simp at hlt
      obtain ⟨_, ai, ni, ci, c4, hB⟩ := hc k hlt
      have c3 := c4 3 _ rfl
      have hq : ((ni : Int)).tdiv 40 = ((ni / 40 : Nat) : Int) := by rw [Int.tdiv_eq_ediv_of_nonneg (by omega)]; omega
      have hni : ni ≤ 1048576 := by rw [hB.1]; exact H2.out _ (List.getElem_mem hlt)
      have HB := Lib.hid hB.1
      clear hc hB c4
      have hlt2 : k < M := by omega
      clear hM
      go_wp2
      go_roundw
      case rel => exact ⟨k + 1, g + 4 + ni / 40, by omega, by go_num, congrArg (Value.int .i64) (by omega), Lib.hid (by rw [ssum_take L k hlt, ← HG.out, ← HB.out]; omega), trivial⟩
      case measure => simp [intOf]; omega
    · have hke : k = M := by omega
      have HGG : Hid (g = ssum L) := Lib.hid (by rw [HG.out, List.take_of_length_le (by omega)])
      have hkk : ¬ k < L.length := hlt
      clear HG hlt hM
      subst hke
      by_cases hbig : 300 < g
      · go_wp2_with fail
        refine (lives_any _).mono ?_; rintro e w' ⟨rfl, hb⟩
        go_wp2
        go_ret
        exact ⟨rfl, hb⟩
      have hL3 : k ≤ 75 := by have := ssum_len L; have := HM.out; have := HGG.out; omega
      have HB3 : Hid (∀ x ∈ L, x.b.length ≤ 20000) := Lib.hid (fun x hx => by have := ssum_mem L x hx; have := HGG.out; omega)
      have hlb : L.length ≤ 75 := by have := HM.out; omega
      clear h1
      go_wp2_with fail
      have HKK := Lib.hid hkk
      clear hkk
      obtain ⟨w, rfl⟩ : ∃ w : World, w = wr := ⟨_, rfl⟩
      obtain ⟨z, hz⟩ : ∃ z : Nat, z = 1 + s % 40 := ⟨_, rfl⟩
      have HZ : Hid ((1 : Int) + (s : Int) % 40 = (z : Int)) := Lib.hid (by omega)
      have hz1 : 1 ≤ z := by omega
      have hz2 : z ≤ 40 := by omega
      clear hz hbig hg HGG hk
      rw [HZ.out]
      refine (new_good z w hz1 (by omega)).mono ?_; rintro e w1 ⟨bd, bl, rfl, hb1, g1, g2, hd1⟩
      go_wp2_with fail
      rw [HZ.out]
      refine (rnew_good z w1 hz1 (by omega)).mono ?_; rintro e w2 ⟨rd, rl, rc, rfl, hb2, hr2⟩
      go_wp2_with fail
      refine (room_any w2).mono ?_; rintro e w' ⟨rfl, rfl⟩
      go_wp2_with fail
      refine (rroom_any w2).mono ?_; rintro e w' ⟨rfl, rfl⟩
      go_wp2_with (first
        | (refine wpList_alloc_any rfl 46 rfl _ zeroBook _ rfl ?_)
        | fail)
      have HS := Lib.hid (PSt.start hb1 g1 g2 hd1 hb2 hr2)
      obtain ⟨bk, hbk⟩ : ∃ bk, bk = w2.heap.size := ⟨_, rfl⟩
      rw [← hbk] at HS ⊢
      generalize w2.alloc (.cells (bookC 0 (.slice none 0 0)) 46) = w3 at HS ⊢
      clear hb1 g1 g2 hd1 hb2 hr2 hbk
      obtain ⟨M, hM⟩ : ∃ M, M = L.length := ⟨_, rfl⟩
      have HM := Lib.hid hM
      have hM75 : M ≤ 75 := by omega
      clear hM
      go_loopw [7, 9, 12] (fun d r i wr => ∃ (k bd bl rd rl rc N : Nat) (bs : Value) (D R : Dsk) (H : List Hl), k ≤ M ∧ d = .pointer (some ⟨bd, 0, none⟩) ∧ r = .pointer (some ⟨rd, 0, none⟩) ∧ i = .int .i64 k ∧ Hid (PSt w wr bd bl rd rl rc bk N bs D R H) ∧ Hid (N ≤ 2 * k ∧ H.length ≤ 2 * k ∧ D.fine (10 * k))) (fun d r i _ => M - (intOf i).toNat)
      case atStart => exact ⟨0, bd, bl, rd, rl, rc, 0, _, _, _, [], Nat.zero_le _, rfl, rfl, rfl, HS, Lib.hid ⟨by omega, by simp, newD_fine z⟩⟩
      case round =>
        clear HS
        obtain ⟨k, bd, bl, rd, rl, rc, N, bs, D, R, H, hk, rfl, rfl, rfl, HS, HC⟩ := hrel
        by_cases hlt : k < M
        · have hkL : k < L.length := by rw [← HM.out]; exact hlt
          obtain ⟨_, _, _, h3 | ⟨b, off, rfl, hblt, hc⟩⟩ := H0.out
          · rw [h3] at hkL; simp at hkL
          obtain ⟨xok, ai, ni, ci, c4, hB0⟩ := hc k hkL
          have RA : Hid (wr.rangeAt b (off + k * 5) (L[k].cells ai ni ci)) := Lib.hid (range_below c4 HS.out.below hblt)
          have hB := hB0.below HS.out.below
          obtain ⟨x, hx⟩ : ∃ x, x = L[k] := ⟨_, rfl⟩
          rw [← hx] at RA hB hB0 xok
          have hbl3 : x.b.length ≤ 20000 := HB3.out x (by rw [hx]; exact List.getElem_mem hkL)
          clear hx
          obtain ⟨kd8, xat, xm, xb, xn⟩ := x
          obtain ⟨⟨xat1, xat2⟩, xm2, xn1, xn2⟩ := xok
          dsimp only at xat1 xat2 xm2 xn1 xn2 hbl3 hB hB0
          obtain ⟨kd, hkd⟩ : ∃ kd, kd = kd8.toNat := ⟨_, rfl⟩
          simp only [ActS.cells, ← hkd] at RA
          have HB := Lib.hid hB
          have HBW := Lib.hid hB0
          have HKD := Lib.hid hkd
          clear hc c4 hB hB0 hkd
          go_wp2_with (first
            | (refine wpList_load_mid rfl 26 (.tmp 77) rfl b (off + k * 5) rfl [.int .u8 kd, .int .i64 xat, .int .u32 xm, .slice ai ni ci, .int .i64 xn] _ RA.out Tryz.underlying26 rfl sizeActS ?_)
            | fail)
          have hni : ni = xb.length := HB.out.1
          subst hni
          have hbx : Below wr.heap.size wr (wr.alloc (.cells #[.int .u8 kd, .int .i64 xat, .int .u32 xm, .slice ai xb.length ci, .int .i64 xn] 26)) := (Below.refl _ _).alloc (Nat.le_refl _) _
          have HX1 : Hid (BxS _ _ kd xat xm ai xb.length ci xn) := Lib.hid (heap_new wr (.cells #[.int .u8 kd, .int .i64 xat, .int .u32 xm, .slice ai xb.length ci, .int .i64 xn] 26 (0, 0)))
          have HS1 := Lib.hid (HS.out.after hbx)
          have HB1 := Lib.hid (HB.out.below hbx)
          obtain ⟨hx, hhx⟩ : ∃ hx, hx = wr.heap.size := ⟨_, rfl⟩
          rw [← hhx] at HX1 ⊢
          generalize wr.alloc (.cells #[.int .u8 kd, .int .i64 xat, .int .u32 xm, .slice ai xb.length ci, .int .i64 xn] 26) = w1 at HX1 HS1 HB1 ⊢
          clear HS hbx hhx HB RA
          refine (twin_any ai xb.length ci xb w1 (by omega) HB1.out).mono ?_
          rintro e w2 ⟨rfl, hb2, hown2⟩
          obtain ⟨htw, hgB⟩ := Tw.of hown2
          have HAP := Lib.hid (HS1.out.book.old w1.heap.size (Nat.le_refl _) xb.length (xb.length + 1))
          have HS2 := Lib.hid (HS1.out.after hb2)
          have HTB := Lib.hid (Nat.le_trans HS1.out.below.size hgB)
          have HX2 := Lib.hid (HX1.out.below hb2)
          have HT2 := Lib.hid htw
          obtain ⟨tg, htg⟩ : ∃ tg, tg = w1.heap.size := ⟨_, rfl⟩
          rw [← htg] at HAP HTB HT2 ⊢
          clear hb2 hown2 htw hgB htg HX1 HS1 HB1
          obtain ⟨v0, v1, v2, v3, v4⟩ := HX2.out.get
          obtain ⟨f9, hf9⟩ : ∃ f9, xn.tmod 9 = f9 := ⟨_, rfl⟩
          have hf91 : -9 ≤ f9 := by have := Int.lt_tmod_of_pos xn (show (0 : Int) < 9 by decide); omega
          have hf92 : f9 ≤ 9 := by have := Int.tmod_lt_of_pos xn (show (0 : Int) < 9 by decide); omega
          have e9 : IntKind.i64.wrap f9 = f9 := IntWalk.i64_in _ (by omega)
          go_wp2_with fail
          -- a fuse
          focus
            have HSd := Lib.hid (HS2.out.after (Below.refl w2.heap.size w2).drew)
            have HXd : Hid (BxS w2.drew hx kd xat xm ai xb.length ci xn) := HX2
            have HTd : Hid (Tw w2.drew tg xb) := HT2
            have v4d : w2.drew.cell? ⟨hx, 4, none⟩ = some (.int .i64 xn) := v4
            have hcode : fcode R.blown = fcode D.blown := by rw [HS2.out.same.2.1]
            go_region_held3 (fun w' => w'.cell? ⟨hx, 4, none⟩ = some (.int .i64 xn)) (first | with_reducible exact v4d | exact q4 | exact q3) (first
              | (go_at_call 10; refine (dfuse_any bd bl D f9 w2.drew HSd.out.disk).mono ?_; rintro e w3 ⟨rfl, ht3, hd3⟩; have HX3 := Lib.hid (HXd.out.touch ht3 (HSd.out.disk.ne HXd.out (by decide) (by decide))); have q3 : w3.cell? ⟨hx, 4, none⟩ = some (.int .i64 xn) := HX3.out.get.2.2.2.2
                 have hr3 := HSd.out.ref.touch ht3 (noRef_disk HSd.out.disk))
              | (go_at_call 11; refine (rfuse_c _ rd rl rc R f9 w3 hr3).mono ?_; rintro e w4 ⟨he, ht4, hr4⟩; rw [hcode] at he; subst he; have ht4 := ht4.weaken (T := fun k => k = rd ∨ k = rl) (fun k _ hk => .inl hk); have HX4 := Lib.hid (HX3.out.touch ht4 (hr3.ne HX3.out (by decide) (by decide))); have q4 : w4.cell? ⟨hx, 4, none⟩ = some (.int .i64 xn) := HX4.out.get.2.2.2.2)
              | fail)
            have hff := HS2.out.same.fuses f9
            have HS4 := Lib.hid (HSd.out.both ht3 hd3 ht4 hr4 hff (fuse_left D R f9 HS2.out.left (by omega)))
            have HT4 : Hid (Tw w4 tg xb) := Lib.hid (ht4.heap (ht3.heap HTd.out (HSd.out.disk.ne HTd.out (by decide) (by decide))) (hr3.ne (ht3.heap HTd.out (HSd.out.disk.ne HTd.out (by decide) (by decide))) (by decide) (by decide)))
            obtain ⟨D4, hD4⟩ : ∃ D4, D4 = (if D.blown then D else { D with left := f9 }) := ⟨_, rfl⟩
            obtain ⟨R4, hR4⟩ : ∃ R4, R4 = (if R.blown then R else { R with left := max (-1) f9 }) := ⟨_, rfl⟩
            rw [← hD4, ← hR4] at HS4
            have HC4 : Hid (N ≤ 2 * k ∧ H.length ≤ 2 * k ∧ D4.fine (10 * (k + 1 : Nat))) := Lib.hid (by
              have := HC.out
              refine ⟨this.1, this.2.1, ?_⟩
              rw [hD4]
              exact (this.2.2.fuse hf92).mono (by omega))
            clear ht3 hd3 ht4 hr4 hr3 hff q3 q4 hD4 hR4 HSd HXd HTd v4d hcode v0 v1 v2 v3 v4 hf9 e9
          rotate_left
          -- a write
          focus
            have HSd := Lib.hid (HS2.out.after (Below.refl w2.heap.size w2).drew)
            have HXd : Hid (BxS w2.drew hx kd xat xm ai xb.length ci xn) := HX2
            have HTd : Hid (Tw w2.drew tg xb) := HT2
            have v1d : w2.drew.cell? ⟨hx, 1, none⟩ = some (.int .i64 xat) ∧ w2.drew.cell? ⟨hx, 3, none⟩ = some (.slice ai xb.length ci) := ⟨v1, v3⟩
            have hsw := HS2.out.same.write xat xb
            have hcode := hsw.1
            have HFD := Lib.hid HC.out.2.2
            have HFR := Lib.hid (HS2.out.same.fine HC.out.2.2)
            go_region_held3 (fun w' => w'.cell? ⟨hx, 1, none⟩ = some (.int .i64 xat) ∧ w'.cell? ⟨hx, 3, none⟩ = some (.slice ai xb.length ci)) (first | with_reducible exact v1d | exact q4 | exact q3) (first
              | (go_at_call 12; refine (write_any bd bl D xat (some ⟨tg, 0, none⟩) xb.length (xb.length + 1) xb w2.drew HSd.out.disk (HTd.out.twin.isB (by unfold maxLen; omega)) (HFD.out.ok (by omega))).mono ?_; rintro e w3 ⟨rfl, ht3, hd3⟩; have HX3 := Lib.hid (HXd.out.touch ht3 (HSd.out.disk.ne HXd.out (by decide) (by decide))); have q3 : w3.cell? ⟨hx, 1, none⟩ = some (.int .i64 xat) ∧ w3.cell? ⟨hx, 3, none⟩ = some (.slice ai xb.length ci) := ⟨HX3.out.get.2.1, HX3.out.get.2.2.2.1⟩
                 have hr3 := HSd.out.ref.touch ht3 (noRef_disk HSd.out.disk)
                 have hbW3 : Below w.heap.size w w3 := HSd.out.below.trans (ht3.below HSd.out.below.size (fun k hk e => by have := HS2.out.dge; omega)))
              | (go_at_call 13; refine (rwrite_any _ rd rl rc R xat ai xb.length ci xb w3 hr3 (HBW.out.below hbW3) (HFR.out.ok (by omega))).mono ?_; rintro e w4 ⟨he, ht4, hr4⟩; rw [hcode] at he; subst he; have HX4 := Lib.hid (HX3.out.touch ht4 (hr3.ne HX3.out (by decide) (by decide))); have q4 : w4.cell? ⟨hx, 1, none⟩ = some (.int .i64 xat) ∧ w4.cell? ⟨hx, 3, none⟩ = some (.slice ai xb.length ci) := ⟨HX4.out.get.2.1, HX4.out.get.2.2.2.1⟩)
              | fail)
            have hfd := HFD.out.write xat xb
            have hfr := HFR.out.write xat xb
            have HS4 := Lib.hid (HSd.out.both ht3 hd3 ht4 hr4 hsw.2 ⟨hfd.left, hfr.left⟩)
            have HT4 : Hid (Tw w4 tg xb) := Lib.hid (ht4.heap (ht3.heap HTd.out (HSd.out.disk.ne HTd.out (by decide) (by decide))) (hr3.ne (ht3.heap HTd.out (HSd.out.disk.ne HTd.out (by decide) (by decide))) (by decide) (by decide)))
            obtain ⟨D4, hD4⟩ : ∃ D4, D4 = (D.write xat xb).2 := ⟨_, rfl⟩
            obtain ⟨R4, hR4⟩ : ∃ R4, R4 = (R.write xat xb).2 := ⟨_, rfl⟩
            rw [← hD4, ← hR4] at HS4
            rw [← hD4] at hfd
            have HC4 : Hid (N ≤ 2 * k ∧ H.length ≤ 2 * k ∧ D4.fine (10 * (k + 1 : Nat))) := Lib.hid ⟨HC.out.1, HC.out.2.1, hfd.mono (by omega)⟩
            clear ht3 hd3 ht4 hr4 hr3 hsw q3 q4 hD4 hR4 HSd HXd HTd v1d hcode v0 v1 v2 v3 v4 hfd hfr hbW3 hf9 e9 HFD HFR
          rotate_left
          -- a copy
          focus
            refine (copy_disk bd bl D w2 HS2.out.disk).mono ?_; rintro e w3 ⟨cd, cl, rfl, hb3, k1, k2, hc3⟩
            have HS3 := Lib.hid (HS2.out.after hb3)
            go_wp2_with fail
            refine (rcopy_any _ rd rl rc R w3 HS3.out.ref).mono ?_; rintro e w4 ⟨sd, sl, sc, rfl, hb4, hr4⟩
            have HS4 := Lib.hid (HS2.out.copied hb3 k1 k2 hc3 (Below.refl _ _) (Touch.refl (fun k => k = bd ∨ k = bl) w3) hb4 hr4)
            have HX4 := Lib.hid ((HX2.out.below hb3).below hb4)
            have HT4 : Hid (Tw w4 tg xb) := Lib.hid (below_heap hb4 (below_heap hb3 HT2.out (lt_of_heap HT2.out)) (Nat.lt_of_lt_of_le (lt_of_heap HT2.out) hb3.size))
            obtain ⟨D4, hD4⟩ : ∃ D4 : Dsk, D4 = ⟨D.secs, -1, false, 0⟩ := ⟨_, rfl⟩
            obtain ⟨R4, hR4⟩ : ∃ R4 : Dsk, R4 = ⟨R.secs, -1, false, 0⟩ := ⟨_, rfl⟩
            have HC4 : Hid (N ≤ 2 * k ∧ H.length ≤ 2 * k ∧ D4.fine (10 * (k + 1 : Nat))) := Lib.hid ⟨HC.out.1, HC.out.2.1, by rw [hD4]; exact ⟨by dsimp only; omega, by dsimp only; omega, by dsimp only; omega⟩⟩
            rw [← hD4, ← hR4] at HS4
            clear hb3 hb4 hc3 k1 k2 hr4 HS3 hD4 hR4 v0 v1 v2 v3 v4 hf9 e9
          rotate_left
          -- a record
          focus
            have HSd := Lib.hid (HS2.out.after (Below.refl w2.heap.size w2).drew)
            have HXd : Hid (BxS w2.drew hx kd xat xm ai xb.length ci xn) := HX2
            have HTd : Hid (Tw w2.drew tg xb) := HT2
            have v1d : w2.drew.cell? ⟨hx, 1, none⟩ = some (.int .i64 xat) ∧ w2.drew.cell? ⟨hx, 2, none⟩ = some (.int .u32 xm) ∧ w2.drew.cell? ⟨hx, 3, none⟩ = some (.slice ai xb.length ci) := ⟨v1, v2, v3⟩
            have hsw := HS2.out.same.put xat xm xb
            have hcode := hsw.1
            have HFD := Lib.hid HC.out.2.2
            have HFR := Lib.hid (HS2.out.same.fine HC.out.2.2)
            go_region_held3 (fun w' => w'.cell? ⟨hx, 1, none⟩ = some (.int .i64 xat) ∧ w'.cell? ⟨hx, 2, none⟩ = some (.int .u32 xm) ∧ w'.cell? ⟨hx, 3, none⟩ = some (.slice ai xb.length ci)) (first | with_reducible exact v1d | exact q4 | exact q3) (first
              | (go_at_call 16; refine (put_any bd bl D xat xm (some ⟨tg, 0, none⟩) xb.length (xb.length + 1) xb _ w2.drew HSd.out.disk (HTd.out.twin.isB (by unfold maxLen; omega)) (fun y off e hne => by cases e; exact HSd.out.disk.ne HTd.out (by decide) (by decide)) HFD.out (by omega) xm2).mono ?_; rintro e w3 ⟨rfl, ht3, hd3⟩; have HX3 := Lib.hid (HXd.out.touch ht3 (HSd.out.disk.ne HXd.out (by decide) (by decide))); have q3 : w3.cell? ⟨hx, 1, none⟩ = some (.int .i64 xat) ∧ w3.cell? ⟨hx, 2, none⟩ = some (.int .u32 xm) ∧ w3.cell? ⟨hx, 3, none⟩ = some (.slice ai xb.length ci) := ⟨HX3.out.get.2.1, HX3.out.get.2.2.1, HX3.out.get.2.2.2.1⟩
                 have hr3 := HSd.out.ref.touch ht3 (noRef_disk HSd.out.disk)
                 have hbW3 : Below w.heap.size w w3 := HSd.out.below.trans (ht3.below HSd.out.below.size (fun k hk e => by have := HS2.out.dge; omega)))
              | (go_at_call 17; refine (rput19_any _ rd rl rc R xat xm ai xb.length ci xb _ w3 hr3 (HBW.out.below hbW3) (by have hlow := hr3.le; have hlow2 := hr3.lt; rcases HBW.out.2.2.2 with ⟨h0, _⟩ | ⟨y0, o0, e0, hy0, _⟩; (exact fun y off e hne => absurd h0 hne); (exact fun y off e hne => by rw [e0] at e; cases e; omega)) HFR.out (by omega) xm2).mono ?_; rintro e w4 ⟨he, ht4, hr4⟩; rw [hcode] at he; subst he; have HX4 := Lib.hid (HX3.out.touch ht4 (hr3.ne HX3.out (by decide) (by decide))); have q4 : w4.cell? ⟨hx, 1, none⟩ = some (.int .i64 xat) ∧ w4.cell? ⟨hx, 2, none⟩ = some (.int .u32 xm) ∧ w4.cell? ⟨hx, 3, none⟩ = some (.slice ai xb.length ci) := ⟨HX4.out.get.2.1, HX4.out.get.2.2.1, HX4.out.get.2.2.2.1⟩)
              | fail)
            have hfd := HFD.out.put xat xm xb
            have hfr := HFR.out.put xat xm xb
            have HS4 := Lib.hid (HSd.out.both ht3 hd3 ht4 hr4 hsw.2 ⟨hfd.left, hfr.left⟩)
            have HT4 : Hid (Tw w4 tg xb) := Lib.hid (ht4.heap (ht3.heap HTd.out (HSd.out.disk.ne HTd.out (by decide) (by decide))) (hr3.ne (ht3.heap HTd.out (HSd.out.disk.ne HTd.out (by decide) (by decide))) (by decide) (by decide)))
            obtain ⟨D4, hD4⟩ : ∃ D4, D4 = (D.put xat xm xb).2 := ⟨_, rfl⟩
            obtain ⟨R4, hR4⟩ : ∃ R4, R4 = (R.put xat xm xb).2 := ⟨_, rfl⟩
            rw [← hD4, ← hR4] at HS4
            rw [← hD4] at hfd
            have HC4 : Hid (N ≤ 2 * k ∧ H.length ≤ 2 * k ∧ D4.fine (10 * (k + 1 : Nat))) := Lib.hid ⟨HC.out.1, HC.out.2.1, hfd.mono (by omega)⟩
            clear ht3 hd3 ht4 hr4 hr3 hsw q3 q4 hD4 hR4 HSd HXd HTd v1d hcode v0 v1 v2 v3 v4 hfd hfr hbW3 hf9 e9 HFD HFR
          rotate_left
          all_goals
            clear HS2 HX2 HT2 HC HKD
            obtain ⟨-, u1, -, u3, -⟩ := HX4.out.get
            go_wp2_with fail
            refine (left_any tg ai xb.length ci xb w4 (by omega) (HBW.out.below HS4.out.below) HT4.out.twin).mono ?_; rintro e w5 ⟨rfl, hb5⟩
            have HS5 := Lib.hid (HS4.out.after hb5)
            have HT5 : Hid (Tw w5 tg xb) := Lib.hid (below_heap hb5 HT4.out (lt_of_heap HT4.out))
            have HX5 := Lib.hid (HX4.out.below hb5)
            clear hb5 u1 u3 HS4 HT4 HX4
            go_wp2_with fail
            refine (bytes_any w5 w.heap.size bk N bs H HS5.out.book ⟨some ⟨tg, 0, none⟩, xb.length, xb.length + 1⟩ (HT5.out.hok HTB.out (by unfold maxLen; omega)) HAP.out (by have := HC4.out; omega) (by have := HC4.out; omega)).mono ?_
            rintro e w6 ⟨rfl, ht6, bs6, hk6⟩
            have HS6 := Lib.hid (HS5.out.kept ht6 hk6 (by dsimp only; omega))
            have HX6 := Lib.hid (HX5.out.touch ht6 (bkS_ne HX5.out (by decide) (by decide)))
            have HC6 : Hid ((H ++ [(⟨⟨some ⟨tg, 0, none⟩, xb.length, xb.length + 1⟩, ⟨none, 0, 0⟩, N + 1⟩ : Hl)]).length ≤ 2 * k + 1) := Lib.hid (by have := HC4.out; simp; omega)
            generalize H ++ [(⟨⟨some ⟨tg, 0, none⟩, xb.length, xb.length + 1⟩, ⟨none, 0, 0⟩, N + 1⟩ : Hl)] = H6 at HS6 HC6
            clear ht6 hk6 HS5 HX5
            obtain ⟨-, u1, -, -, -⟩ := HX6.out.get
            obtain ⟨G, hG⟩ : ∃ G, G = D4.get xat := ⟨_, rfl⟩
            have hGl : G.2.1.length ≤ 320 := by
              rw [hG]
              unfold Dsk.get
              split
              · simp
              · exact newestW_short HS6.out.disk _ (by omega)
            have HG := Lib.hid hG
            go_wp2_with fail
            refine (get_own _ _ D4 xat w6 HS6.out.disk).mono ?_; rw [← hG]; rintro e w7 ⟨ga, rfl, hb7, hi7, yc, ho7⟩
            have HS7 := Lib.hid (HS6.out.after hb7)
            have HX7 := Lib.hid (HX6.out.below hb7)
            have HO7 := Lib.hid (hok_own (owns_lower ho7 HS6.out.below.size))
            have HA7 := Lib.hid (HS6.out.book.old_own ho7)
            have HI7 := Lib.hid hi7
            clear hb7 hi7 ho7 u1 hG HS6 HX6
            obtain ⟨-, u1, -, -, -⟩ := HX7.out.get
            go_wp2_with fail
            refine (rget19_any _ _ _ _ R4 xat w7 HS7.out.ref).mono ?_; rw [HS7.out.same.get, ← HG.out]; rintro e w8 ⟨ra, rm, rcc, rfl, hb8, hi8⟩
            have HS8 := Lib.hid (HS7.out.after hb8)
            have HI8 := Lib.hid (HI7.out.below hb8)
            have HR8 := Lib.hid hi8
            have HO8 : Hid (HOk w8 w.heap.size ⟨ga, G.2.1.length, G.2.1.length⟩) := Lib.hid (HO7.out.touch (Touch.of_below (S := fun _ => False) hb8) (fun _ _ h => h))
            clear hb8 hi8 u1 HS7 HI7 HO7
            obtain ⟨g1, gb, gc⟩ := G
            dsimp only at hGl HI8 HR8 HO8 HA7 ⊢
            go_wp2_with fail
            refine (sameB_any ga ra gb.length rm gb.length rcc gb gb w8 HI8.out HR8.out).mono ?_; rintro e w9 ⟨rfl, j9, hw9⟩
            rw [decide_eq_true rfl]
            have hb9 : Below w8.heap.size w8 w9 := by rw [hw9]; exact below_drewN (Below.refl _ _) j9
            have HS9 := Lib.hid (HS8.out.after hb9)
            have HO9 : Hid (HOk w9 w.heap.size ⟨ga, gb.length, gb.length⟩) := Lib.hid (HO8.out.touch (Touch.of_below (S := fun _ => False) hb9) (fun _ _ h => h))
            clear hb9 hw9 HS8 HI8 HR8 HO8
            go_wp2_with fail
            refine (bytes_any w9 w.heap.size bk (N + 1) _ H6 HS9.out.book ⟨ga, gb.length, gb.length⟩ HO9.out HA7.out (by have := HC4.out; omega) (by have := HC6.out; omega)).mono ?_
            rintro e wa ⟨rfl, hta, bsa, hka⟩
            have HSa := Lib.hid (HS9.out.kept hta hka (by dsimp only; omega))
            clear hta hka HS9
            go_wp2_with fail
            go_roundw
            case rel => exact ⟨k + 1, _, _, _, _, _, _, _, _, _, _, by omega, rfl, rfl, by go_num, HSa, Lib.hid (by have := HC4.out; have := HC6.out; refine ⟨by omega, ?_, ?_⟩; (rw [List.length_append, List.length_singleton]; omega); exact HC4.out.2.2)⟩
            case measure => simp [intOf]; omega
        · have hke : k = M := by omega
          subst hke
          have hkk : ¬ k < L.length := by have := HM.out; omega
          clear hlt
          go_wp2_with fail
          refine (apart_any _ w.heap.size bk N bs H HS.out.book HS.out.small).mono ?_; rintro e w3 ⟨rfl, hb3⟩
          go_wp2_with fail
          refine (lives_any _).mono ?_; rintro e w4 ⟨rfl, hb4⟩
          have hbb := HS.out.below.trans hb3
          have hbb2 := hbb.trans (hb4.mono hbb.size)
          go_wp2
          go_ret
          exact ⟨rfl, hbb2⟩

end Go.Proofs.YthenakdfdpdknaaGreatDoor

/- Lists of ints in memory: lemmas of our own; conditions: those typed. -/
namespace Go.Proofs.YthenakdfdpdknaaGreatDoor
open Go.RowKit
set_option linter.unusedVariables false

theorem infoInt : (Tryz.prog.info? 3).map (fun i => (i.zero, i.size, i.bytes)) = some (some (.int .i64 0), 1, 8) := by kernel_rfl

def icells (l : List Int) : List Value := l.map (Value.int .i64)
theorem icells_length (l : List Int) : (icells l).length = l.length := by simp [icells]
theorem icells_one (l : List Int) : ∀ u ∈ icells l, u.oneCell' = true := by
  intro u hu
  obtain ⟨b, _, rfl⟩ := List.mem_map.1 hu
  rfl
theorem icells_append (a b : List Int) : icells (a ++ b) = icells a ++ icells b := List.map_append
theorem icells_get (l : List Int) (i : Nat) (h : i < l.length) : (icells l)[i]? = some (.int .i64 l[i]) := by simp [icells, h]
theorem icells_set (l : List Int) (i : Nat) (v : Int) : (icells l).set i (.int .i64 v) = icells (l.set i v) := by unfold icells; rw [List.map_set]

/-- A slice of ints that reads as a list. -/
def IsI (w : World) (a : Option Addr) (n c : Nat) (l : List Int) : Prop :=
  n = l.length ∧ l.length ≤ c ∧ c ≤ maxLen ∧ ((l = [] ∧ (a = none → c = 0)) ∨ ∃ b off, a = some ⟨b, off, none⟩ ∧ b < w.heap.size ∧ ∀ i (h : i < l.length), w.cell? ⟨b, off + i, none⟩ = some (.int .i64 l[i]))
theorem IsI.nil (w : World) : IsI w none 0 0 [] := ⟨rfl, Nat.le_refl _, by decide, .inl ⟨rfl, fun _ => rfl⟩⟩
theorem IsI.below {w w' : World} {a : Option Addr} {n c : Nat} {l : List Int} (h : IsI w a n c l) (hb : Below w.heap.size w w') : IsI w' a n c l := by
  obtain ⟨h1, h2, h3, h4 | ⟨b, off, rfl, hlt, hc⟩⟩ := h
  · exact ⟨h1, h2, h3, .inl h4⟩
  · exact ⟨h1, h2, h3, .inr ⟨b, off, rfl, Nat.lt_of_lt_of_le hlt hb.size, fun i hi => (hb.cell (p := ⟨b, off + i, none⟩) hlt).trans (hc i hi)⟩⟩
theorem isI_of_owns {w : World} {base e n : Nat} {a : Option Addr} {m c : Nat} {l : List Int} (h : w.ownsRow base e 1 (.slice a m c) n (icells l)) (hn : n = l.length) : IsI w a m c l := by
  have hl := h.1
  rcases h.2 with ⟨hv, h0⟩ | ⟨g, cap, cur, hv, hb, hg, hnc, hcm, hcs, htk⟩
  · cases hv
    have : l = [] := List.eq_nil_of_length_eq_zero (by omega)
    subst this
    exact ⟨rfl, Nat.le_refl _, by decide, .inl ⟨rfl, fun _ => rfl⟩⟩
  · cases hv
    refine ⟨hn, by omega, hcm, .inr ⟨g, 0, rfl, ?_, fun i hi => ?_⟩⟩
    · exact (h.lt g rfl).2
    · rw [Nat.zero_add]
      exact cells_of_owns h i _ (icells_get l i hi)
theorem owns_icell {w : World} {base e g n c : Nat} {L : List Int} (h : w.ownsRow base e 1 (.slice (some ⟨g, 0, none⟩) n c) n (icells L)) (j : Nat) (hj : j < L.length) : w.cell? ⟨g, j, none⟩ = some (.int .i64 L[j]) :=
  cells_of_owns h j _ (icells_get L j hj)
theorem IsI.fresh (w : World) (l : List Int) (C : Array Value) (e : TypeId) (fz : Nat × Nat) (hC : C = (l.map fun b => Value.int .i64 b).toArray) (n c : Nat) (hn : n = l.length) (hc : c = l.length) (hm : l.length ≤ maxLen) :
    IsI (w.alloc (.cells C e fz)) (some ⟨w.heap.size, 0, none⟩) n c l := by
  subst hC
  refine ⟨hn, by omega, by omega, .inr ⟨_, _, rfl, by simp, fun i h => ?_⟩⟩
  rw [cell_of_block (heap_new w _)]
  simp [h]

end Go.Proofs.YthenakdfdpdknaaGreatDoor

/- Opening the arguments of a call: lemmas of our own; no condition. -/
namespace Go.Proofs.YthenakdfdpdknaaGreatDoor
open Go.ChangeShapes Go.WideShapes Go.ChangeAt Go.RowKit Go.Deep
set_option linter.unusedVariables false
set_option maxRecDepth 100000

theorem own : ownKnob Tryz.prog.godebug = none := by kernel_rfl
theorem laidOut : laidOutB Tryz.prog = true := by kernel_rfl

theorem u8_nat {x : Int} (h : (Lit.int .u8 x).wf = true) : ∃ n : Nat, x = n ∧ n < 256 := by
  simp [Lit.wf, IntKind.min, IntKind.max, IntKind.signed, IntKind.bits] at h
  exact ⟨x.toNat, by omega, by omega⟩
theorem u16_nat {x : Int} (h : (Lit.int .u16 x).wf = true) : ∃ n : Nat, x = n ∧ n < 65536 := by
  simp [Lit.wf, IntKind.min, IntKind.max, IntKind.signed, IntKind.bits] at h
  exact ⟨x.toNat, by omega, by omega⟩
theorem u32_nat {x : Int} (h : (Lit.int .u32 x).wf = true) : ∃ n : Nat, x = n ∧ n < 4294967296 := by
  simp [Lit.wf, IntKind.min, IntKind.max, IntKind.signed, IntKind.bits] at h
  exact ⟨x.toNat, by omega, by omega⟩
theorem u64_nat {x : Int} (h : (Lit.int .u64 x).wf = true) : ∃ n : Nat, x = n ∧ n < 18446744073709551616 := by
  simp [Lit.wf, IntKind.min, IntKind.max, IntKind.signed, IntKind.bits] at h
  exact ⟨x.toNat, by omega, by omega⟩
theorem i64_bounds {x : Int} (h : (Lit.int .i64 x).wf = true) : -9223372036854775808 ≤ x ∧ x ≤ 9223372036854775807 := by
  simp [Lit.wf, IntKind.min, IntKind.max, IntKind.signed, IntKind.bits] at h
  omega

/-- What 'open_ints' hands over of a slice of ints, as a list. -/
theorem isI_of_ints {W : World} {a : Option Addr} {m c : Nat} (x : Addr) (zs : List Int) (ha : a = some x) (hl : m ≤ c) (hm : c ≤ maxLen) (hz : zs.length = c)
    (hcell : ∀ i, i < zs.length → W.cell? (x.add i) = some (.int .i64 (zs.getD i 0))) : IsI W a m c (zs.take m) := by
  subst ha
  by_cases h0 : m = 0
  · subst h0
    exact ⟨by simp, by simp, hm, .inl ⟨by simp, fun h => by cases h⟩⟩
  obtain ⟨b, off, spot⟩ := x
  have hc0 := hcell 0 (by omega)
  have hspot : spot = none := by simpa [Addr.add] using World.cell?_spot hc0
  subst hspot
  refine ⟨by simp; omega, by simp; omega, hm, .inr ⟨b, off, rfl, ?_, fun i hi => ?_⟩⟩
  · have hb := hc0
    simp only [Addr.add, World.cell?] at hb
    rcases Nat.lt_or_ge b W.heap.size with h | h
    · exact h
    · simp [Array.getElem?_eq_none h] at hb
  · have him : i < m := by simp at hi; omega
    have := hcell i (by omega)
    have hiz : i < zs.length := by omega
    simp [hiz] at this
    by_cases hi0 : i = 0
    · subst hi0; simpa [Addr.add] using this
    · simpa [Addr.add, hi0] using this

section
variable {H : Type} {enc : TypeId × Value → H} {W : World} {base : Nat} {held : Bool}
/-- A slice of a kind of bytes: the first limb: by its reading; 't' the slice's type. -/
theorem isB_openT {t e : TypeId} (ht : Tryz.prog.underlying t = some (.slice e)) (he : Tryz.prog.underlying e = some (.int .u8)) (hc : Tryz.prog.cellsOf e = 1) {a0 : Option Addr} {len0 cap0 fuel : Nat} {x : DataW H × List MemPlace}
    (hf : DataW.trod enc Tryz.prog W base (fun _ => true) held fuel t [Value.slice a0 len0 cap0] = some x) : ∃ l, IsB W a0 len0 cap0 l := by
  rcases open_ints ht he hc hf with ⟨hcs, _⟩ | ⟨x, l, c, zs, hcs, _, hl, hm, hz, _, hcell, hwz⟩
  · simp at hcs
    obtain ⟨rfl, rfl, rfl⟩ := hcs
    exact ⟨[], isB_nil W⟩
  · simp at hcs
    obtain ⟨rfl, rfl, rfl⟩ := hcs
    exact isB_of_ints x zs rfl hl hm (by simpa using hz) hcell hwz
theorem isI_openT {t e : TypeId} (ht : Tryz.prog.underlying t = some (.slice e)) (he : Tryz.prog.underlying e = some (.int .i64)) (hc : Tryz.prog.cellsOf e = 1) {a0 : Option Addr} {len0 cap0 fuel : Nat} {x : DataW H × List MemPlace}
    (hf : DataW.trod enc Tryz.prog W base (fun _ => true) held fuel t [Value.slice a0 len0 cap0] = some x) : ∃ l, IsI W a0 len0 cap0 l := by
  rcases open_ints ht he hc hf with ⟨hcs, _⟩ | ⟨x, l, c, zs, hcs, _, hl, hm, hz, _, hcell, hwz⟩
  · simp at hcs
    obtain ⟨rfl, rfl, rfl⟩ := hcs
    exact ⟨[], IsI.nil W⟩
  · simp at hcs
    obtain ⟨rfl, rfl, rfl⟩ := hcs
    exact ⟨_, isI_of_ints x zs rfl hl hm (by simpa using hz) hcell⟩

set_option maxRecDepth 100000 in
/-- A struct of one-cell fields, by value. -/
theorem open_aggN {r : Reach} {b0 : Nat} {sp : Nat → Bool} {t : TypeId} {fs : Array Field} {v : Value} {d : DataW H} {p : List MemPlace} (hs : Tryz.prog.underlying t = some (.struct fs)) (hone : oneCellFields Tryz.prog fs = true) (hC : Tryz.prog.cellsOf t = fs.size)
    (hv : Value.okWide Tryz.prog W r b0 t v) (h : DataW.Trod enc Tryz.prog W base sp held t v d p) :
    ∃ (cs : Array Value) (n : Nat), v = .agg cs ∧ cs.size = fs.size ∧ ∀ (j : Nat) (f : Field), fs[j]? = some f → ∃ (u : Value) (y : DataW H × List MemPlace), cs[j]? = some u ∧ DataW.trod enc Tryz.prog W base sp held n f.type [u] = some y := by
  obtain ⟨cs, rfl, hsz⟩ := okWide_struct hs hv
  obtain ⟨fuel, hf⟩ := h
  obtain ⟨xs, n, _, hx, _, hlen, hg⟩ := DataW.trod_struct hs hf
  refine ⟨cs, n, rfl, hsz.trans hC, fun j f hj => ?_⟩
  obtain ⟨o, k⟩ := hone_of hone j f hj
  have hjl : j < fs.size := (Array.getElem?_eq_some_iff.1 hj).1
  have hjc : j < cs.toList.length := by simpa [hsz, hC] using hjl
  have h1 := hg j f hj
  rw [o, k] at h1
  have hcl : (Value.agg cs).cells.toList = cs.toList := rfl
  have h2 : (cs.toList.drop j).take 1 = [cs.toList[j]] := by rw [List.drop_eq_getElem_cons hjc]; rfl
  rw [hcl, h2] at h1
  have hjx : j < xs.length := by omega
  rw [List.getElem?_eq_getElem hjx] at h1
  exact ⟨cs.toList[j], xs[j], by simp, h1⟩

/-- An array of bytes, by value. -/
theorem open_u8s {r : Reach} {b0 m : Nat} {sp : Nat → Bool} {t e : TypeId} {v : Value} {d : DataW H} {p : List MemPlace} (hs : Tryz.prog.underlying t = some (.array m e)) (he : Tryz.prog.underlying e = some (.int .u8)) (hCe : Tryz.prog.cellsOf e = 1) (hC : Tryz.prog.cellsOf t = m)
    (hv : Value.okWide Tryz.prog W r b0 t v) (h : DataW.Trod enc Tryz.prog W base sp held t v d p) :
    ∃ l : List UInt8, v = .agg (l.map fun b => Value.int .u8 b.toNat).toArray ∧ l.length = m := by
  have hv' := hv
  simp only [Value.okWide, hs] at hv'
  obtain ⟨cs, rfl, hsz, _⟩ := hv'
  obtain ⟨fuel, hf⟩ := h
  cases fuel with
  | zero => simp [DataW.trod] at hf
  | succ n =>
  obtain ⟨xs, q, hq, hx, _, hlen, hg⟩ := DataW.trod_array hs hf
  have hcl : (Value.agg cs).cells.toList = cs.toList := rfl
  rw [hCe, hcl] at hg
  have key : ∀ i (hi : i < cs.size), ∃ c : UInt8, cs[i] = Value.int .u8 c.toNat := fun i hi => by
    have h1 := hg i (by omega)
    have hic : i < cs.toList.length := by simpa using hi
    have h2 : (cs.toList.drop (i * 1)).take 1 = [cs.toList[i]] := by rw [Nat.mul_one, List.drop_eq_getElem_cons hic]; rfl
    have hix : i < xs.length := by omega
    rw [h2, List.getElem?_eq_getElem hix] at h1
    obtain ⟨z, hz, _, hw⟩ := DataW.trod_int he h1
    obtain ⟨c, rfl, hc⟩ := u8_nat hw
    refine ⟨UInt8.ofNat c, ?_⟩
    have h3 : cs.toList[i] = Value.int .u8 c := by simpa using hz
    rw [show (UInt8.ofNat c).toNat = c by simp; omega, ← h3]
    simp
  refine ⟨(List.range cs.size).map fun i => if h : i < cs.size then (key i h).choose else 0, ?_, by simp; omega⟩
  congr 1
  apply Array.ext
  · simp
  · intro i h1 h2
    have := (key i h1).choose_spec
    simp [h1]
    exact this
end

theorem isB_open {W : World} {H : Type} {enc : TypeId × Value → H} {a0 : Option Addr} {len0 cap0 : Nat} {d0 : DataW H} {p0 : List MemPlace}
    (h0 : DataW.Trod enc Tryz.prog W 0 (fun _ => true) true 24 (Value.slice a0 len0 cap0) d0 p0) : ∃ l, IsB W a0 len0 cap0 l := by
  obtain ⟨fuel, hf⟩ := h0
  exact isB_openT Tryz.underlying24 Tryz.underlying5 (by kernel_rfl) hf

end Go.Proofs.YthenakdfdpdknaaGreatDoor

/- For a statement with a bound on the bulk of its arguments: what the bound gives (after the UptoLemmas of the how-to-prove folder); no condition. -/
namespace Go.Proofs.YthenakdfdpdknaaGreatDoor.bulks

theorem one_le {H : Type} (d : DataW H) : 1 ≤ Rows.uptoBulk d := by
  cases d with
  | lit l => cases l <;> simp [Rows.uptoBulk]
  | nil => simp [Rows.uptoBulk]
  | ptr d => simp [Rows.uptoBulk]
  | slice elems spare => simp [Rows.uptoBulk]
  | agg parts => simp [Rows.uptoBulk]
  | iface t d => simp [Rows.uptoBulk]
  | map entries => simp [Rows.uptoBulk]
  | held h => simp [Rows.uptoBulk]

/-- a part's bulk is at most the whole's -/
theorem part_le {H : Type} {d : DataW H} {l : List (DataW H)} (h : d ∈ l) : Rows.uptoBulk d ≤ Rows.uptoBulkAll l := by
  induction l with
  | nil => cases h
  | cons x r ih =>
    simp only [Rows.uptoBulkAll]
    cases List.mem_cons.1 h with
    | inl e => subst e; omega
    | inr e => have := ih e; omega

theorem append {H : Type} (l r : List (DataW H)) : Rows.uptoBulkAll (l ++ r) = Rows.uptoBulkAll l + Rows.uptoBulkAll r := by
  induction l with
  | nil => simp [Rows.uptoBulkAll]
  | cons x l ih => simp only [List.cons_append, Rows.uptoBulkAll, ih]; omega

/-- so many values at the most -/
theorem length_le {H : Type} (l : List (DataW H)) : l.length ≤ Rows.uptoBulkAll l := by
  induction l with
  | nil => simp [Rows.uptoBulkAll]
  | cons x r ih => have := one_le x; simp only [Rows.uptoBulkAll, List.length_cons]; omega

/-- a slice's places, and what they hold -/
theorem slice_le {H : Type} (elems spare : List (DataW H)) : elems.length + spare.length + 1 ≤ Rows.uptoBulk (.slice elems spare) := by
  have h1 := length_le elems
  have h2 := length_le spare
  simp only [Rows.uptoBulk]
  omega
theorem slice_elems {H : Type} (elems spare : List (DataW H)) : Rows.uptoBulkAll elems + 1 ≤ Rows.uptoBulk (.slice elems spare) := by
  simp only [Rows.uptoBulk]
  omega

/-- a string's letters -/
theorem string_eq {H : Type} (bytes : List UInt8) : Rows.uptoBulk (DataW.lit (H := H) (.string bytes)) = bytes.length + 1 := by
  simp [Rows.uptoBulk]

/-- THE BOUND, as the builder hands it over ('hk') -/
theorem bound {H : Type} {l : List (DataW H)} (hk : Rows.uptoSmall H l = true) : Rows.uptoBulkAll l ≤ 1048576 := by
  simpa [Rows.uptoSmall] using hk

/-- ROOM: a slice of n elements of b bytes, grown by append: below the 2^48 bytes that append, make and a Builder bear. Here n up to 2^21, b up to 4,096: put your own numbers. -/
theorem room {n b : Nat} (hn : n ≤ 2097152) (hb : b ≤ 4096) : (n + n / 4 + 192) * b ≤ 281474976710656 := by
  have h : (n + n / 4 + 192) * b ≤ 2621632 * 4096 := Nat.mul_le_mul (by omega) hb
  omega

end Go.Proofs.YthenakdfdpdknaaGreatDoor.bulks

/- Opening arguments field by field, with their bulk; no condition. -/
namespace Go.Proofs.YthenakdfdpdknaaGreatDoor
open Go.ChangeShapes Go.WideShapes Go.ChangeAt Go.RowKit Go.Deep
set_option linter.unusedVariables false
set_option maxRecDepth 100000

theorem addr_spot {W : World} {a : Addr} {v : Value} (h : W.cell? a = some v) : a = ⟨a.block, a.off, none⟩ ∧ a.block < W.heap.size := by
  obtain ⟨b, off, spot⟩ := a
  have hs : spot = none := World.cell?_spot h
  subst hs
  refine ⟨rfl, ?_⟩
  rcases Nat.lt_or_ge b W.heap.size with h' | h'
  · exact h'
  · simp [World.cell?, Array.getElem?_eq_none h'] at h

theorem choose_list {α : Type} [Inhabited α] (m : Nat) (p : Nat → α → Prop) (h : ∀ i, i < m → ∃ x, p i x) : ∃ L : List α, L.length = m ∧ ∀ i (hi : i < L.length), p i L[i] := by
  induction m with
  | zero => exact ⟨[], rfl, fun i hi => by simp at hi⟩
  | succ m ih =>
    obtain ⟨L, hL, hp⟩ := ih fun i hi => h i (by omega)
    obtain ⟨x, hx⟩ := h m (by omega)
    refine ⟨L ++ [x], by simp [hL], fun i hi => ?_⟩
    by_cases him : i < L.length
    · rw [List.getElem_append_left him]; exact hp i him
    · have : i = L.length := by simp at hi; omega
      subst this
      simp [hL]; exact hx

section
variable {H : Type} {enc : TypeId × Value → H} {W : World} {base b0 : Nat} {held : Bool} {r : Reach}
theorem field_u8 {n : Nat} {t : TypeId} {u : Value} {y : DataW H × List MemPlace} (ht : Tryz.prog.underlying t = some (.int .u8)) (h : DataW.trod enc Tryz.prog W base (fun _ => true) held n t [u] = some y) : ∃ x : UInt8, u = .int .u8 x.toNat := by
  obtain ⟨z, hz, _, hw⟩ := DataW.trod_int ht h
  obtain ⟨x, rfl, hx⟩ := u8_nat hw
  refine ⟨UInt8.ofNat x, ?_⟩
  rw [show (UInt8.ofNat x).toNat = x by simp; omega]
  simpa using hz
theorem field_int {n : Nat} {t : TypeId} {u : Value} {y : DataW H × List MemPlace} (ht : Tryz.prog.underlying t = some (.int .i64)) (h : DataW.trod enc Tryz.prog W base (fun _ => true) held n t [u] = some y) : ∃ x : Int, u = .int .i64 x ∧ -9223372036854775808 ≤ x ∧ x ≤ 9223372036854775807 := by
  obtain ⟨z, hz, _, hw⟩ := DataW.trod_int ht h
  exact ⟨z, by simpa using hz, i64_bounds hw⟩
theorem field_bytes {n : Nat} {t e : TypeId} {u : Value} {y : DataW H × List MemPlace} (ht : Tryz.prog.underlying t = some (.slice e)) (he : Tryz.prog.underlying e = some (.int .u8)) (hc : Tryz.prog.cellsOf e = 1)
    (h : DataW.trod enc Tryz.prog W base (fun _ => true) held n t [u] = some y) : ∃ a n c l, u = .slice a n c ∧ IsB W a n c l ∧ l.length ≤ Rows.uptoBulk y.1 := by
  rcases open_ints ht he hc h with ⟨hcs, _⟩ | ⟨x, l, c, zs, hcs, _, hl, hm, hz, hy, hcell, hwz⟩
  · simp at hcs
    exact ⟨none, 0, 0, [], hcs, isB_nil W, Nat.zero_le _⟩
  · simp at hcs
    obtain ⟨L, hL⟩ := isB_of_ints (a := some x) x zs rfl hl hm (by simpa using hz) hcell hwz
    refine ⟨_, _, _, L, hcs, hL, ?_⟩
    rw [hy, ← hL.1]
    have hzc : zs.length = c := by simpa using hz
    refine Nat.le_trans ?_ (bulks.slice_le _ _)
    simp [lits]
    omega
theorem field_u32 {n : Nat} {t : TypeId} {u : Value} {y : DataW H × List MemPlace} (ht : Tryz.prog.underlying t = some (.int .u32)) (h : DataW.trod enc Tryz.prog W base (fun _ => true) held n t [u] = some y) : ∃ x : Nat, u = .int .u32 x ∧ x < 4294967296 := by
  obtain ⟨z, hz, _, hw⟩ := DataW.trod_int ht h
  obtain ⟨x, rfl, hx⟩ := u32_nat hw
  exact ⟨x, by simpa using hz, hx⟩
end

end Go.Proofs.YthenakdfdpdknaaGreatDoor

/- Opening the arguments of a play on slots; no condition. -/
namespace Go.Proofs.YthenakdfdpdknaaGreatDoor
open Go.ChangeShapes Go.WideShapes Go.ChangeAt Go.RowKit Go.Deep
set_option linter.unusedVariables false
set_option maxRecDepth 100000

section
variable {H : Type} {enc : TypeId × Value → H} {W : World} {base b0 : Nat} {held : Bool} {r : Reach}
theorem open_ActS {a : Option Addr} {len cap : Nat} {d : DataW H} {p : List MemPlace} (h : DataW.Trod enc Tryz.prog W base (fun _ => true) held 22 (.slice a len cap) d p) (K : Nat) (hK : Rows.uptoBulk d ≤ K) :
    ∃ L, IsActS W a len cap L ∧ L.length ≤ K ∧ ∀ x ∈ L, x.b.length ≤ K := by
  obtain ⟨fuel, hf⟩ := h
  have ce : Tryz.prog.cellsOf 26 = 5 := by kernel_rfl
  rcases open_slice Tryz.underlying22 hf with ⟨hcs, _⟩ | ⟨x, l, c, m, n, D, Pl, hcs, _, hl, hm, hmm, hd, hx⟩
  · simp [Value.cells] at hcs
    obtain ⟨rfl, rfl, rfl⟩ := hcs
    exact ⟨[], ⟨rfl, Nat.le_refl _, by decide, .inl rfl⟩, Nat.zero_le _, fun x hx => by cases hx⟩
  · simp [Value.cells] at hcs
    obtain ⟨rfl, rfl, rfl⟩ := hcs
    have hd1 : d = .slice ((List.range len).map D) ((List.range (m - len)).map fun j => D (len + j)) := congrArg Prod.fst hd
    rw [hd1] at hK
    have hel := Nat.le_trans (bulks.slice_elems _ _) hK
    have hlen : len ≤ K := by
      have := Nat.le_trans (bulks.slice_le _ _) hK
      simp at this
      omega
    have hDi : ∀ i, i < len → Rows.uptoBulk (D i) ≤ K := fun i hi => by
      have := bulks.part_le (List.mem_map.2 ⟨i, List.mem_range.2 hi, rfl⟩ : D i ∈ (List.range len).map D)
      omega
    by_cases h0 : len = 0
    · subst h0
      exact ⟨[], ⟨rfl, Nat.zero_le _, hm, .inl rfl⟩, Nat.zero_le _, fun x hx => by cases hx⟩
    have hlm : len ≤ m := by rw [hmm]; simp; exact hl
    obtain ⟨L, hL, hp⟩ := choose_list (α := ActS) len (fun i q => q.ok ∧ q.b.length ≤ K ∧ W.cell? (x.add (i * 5)) = some (.int .u8 q.kind.toNat) ∧ ∃ ai ni ci, W.cell? (x.add (i * 5 + 1)) = some (.int .i64 q.at_) ∧ W.cell? (x.add (i * 5 + 2)) = some (.int .u32 q.num) ∧ W.cell? (x.add (i * 5 + 3)) = some (.slice ai ni ci) ∧ W.cell? (x.add (i * 5 + 4)) = some (.int .i64 q.n) ∧ IsB W ai ni ci q.b) (fun i hi => by
      obtain ⟨cs', h1, h2⟩ := hx i (by omega)
      rw [ce] at h1
      obtain ⟨_, hlen3, hcell⟩ := World.cells?_some h1
      obtain ⟨xs, k, hk, hxy, _, hxl, hf3⟩ := DataW.trod_struct Tryz.underlying26 h2
      match xs, hxl, cs', hlen3 with
      | [y0, y1, y2, y3, y4], _, [u0, u1, u2, u3, u4], _ =>
        have g0 := hf3 0 _ rfl
        have g1 := hf3 1 _ rfl
        have g2 := hf3 2 _ rfl
        have g3 := hf3 3 _ rfl
        have g4 := hf3 4 _ rfl
        obtain ⟨z0, e0⟩ := field_u8 (n := k) Tryz.underlying5 g0
        obtain ⟨z1, e1, b1⟩ := field_int (n := k) Tryz.underlying3 g1
        obtain ⟨z2, e2, b2⟩ := field_u32 (n := k) Tryz.underlying23 g2
        obtain ⟨ai, ni, ci, l3, e3, hB, hbl⟩ := field_bytes (n := k) Tryz.underlying24 Tryz.underlying5 (by kernel_rfl) g3
        obtain ⟨z4, e4, b4⟩ := field_int (n := k) Tryz.underlying3 g4
        have q0 := hcell 0 (by decide)
        have q1 := hcell 1 (by decide)
        have q2 := hcell 2 (by decide)
        have q3 := hcell 3 (by decide)
        have q4 := hcell 4 (by decide)
        rw [add_add] at q0 q1 q2 q3 q4
        simp at e0 e1 e2 e3 e4 q0 q1 q2 q3 q4
        have hDe : D i = .agg [y0.1, y1.1, y2.1, y3.1, y4.1] := by simpa using congrArg Prod.fst hxy
        have hDK := hDi i hi
        rw [hDe] at hDK
        simp only [Rows.uptoBulk, Rows.uptoBulkAll] at hDK
        exact ⟨⟨z0, z1, z2, l3, z4⟩, ⟨b1, b2, b4⟩, by dsimp only; omega, by rw [q0, e0], ai, ni, ci, by rw [q1, e1], by rw [q2, e2], by rw [q3, e3], by rw [q4, e4], hB⟩)
    have h00 := (hp 0 (by omega)).2.2.1
    simp only [Nat.zero_mul] at h00
    rw [show x.add 0 = x by simp [Addr.add]] at h00
    obtain ⟨hsp, hlt⟩ := addr_spot h00
    obtain ⟨b, off, spot⟩ := x
    simp at hsp
    subst hsp
    refine ⟨L, ⟨hL.symm, by omega, hm, .inr ⟨b, off, rfl, hlt, fun i hi => ?_⟩⟩, by omega, fun y hy => ?_⟩
    · obtain ⟨k1, _, c0, ai, ni, ci, c1, c2, c3, c4, hB⟩ := hp i hi
      rw [addr_add] at c0 c1 c2 c3 c4
      refine ⟨k1, ai, ni, ci, fun j v hj => ?_, hB⟩
      match j, hj with
      | 0, hj => cases hj; exact c0
      | 1, hj => cases hj; exact c1
      | 2, hj => cases hj; exact c2
      | 3, hj => cases hj; exact c3
      | 4, hj => cases hj; exact c4
    · obtain ⟨i, hi, rfl⟩ := List.getElem_of_mem hy
      exact (hp i hi).2.1
end
end Go.Proofs.YthenakdfdpdknaaGreatDoor

/- SlotsPlay, where what it reads is of bulk at most 1048576: it returns true, and each argument reads behind the call as it read before. Conditions: that bound; the listed tables lie as the program lays them: the card ties that to the text. -/
namespace Go.Proofs.YthenakdfdpdknaaGreatDoor
open Go.ChangeShapes Go.WideShapes Go.ChangeAt Go.RowKit
set_option linter.unusedVariables false
set_option maxRecDepth 100000

theorem slotsPlay_contract (H : Type) (enc : TypeId × Value → H) (W : World) (base : Nat) (args : Array Value) (ds gs : List (DataW H)) (before : List MemPlace)
    (hval0 : ∀ (j : Nat) t v, Tryz.f3.params[j]? = some t → args[j]? = some v → Value.okWide Tryz.prog W .any base t v)
    (hW : DataW.Whole enc Tryz.prog Tryz.f3.params.toList Rows.slotsPlaySpec.vars false W args.toList ds gs before) (hk : Rows.uptoSmall H (ds ++ gs) = true) :
    Calls Tryz.prog 3 args W fun e W' => ∃ v, e = .returned v ∧ Rows.slotsPlaySpec.post enc Tryz.prog Tryz.f3 false true false false W args v W' := by
  have hval : ∀ (j : Nat) t v, Tryz.f3.params[j]? = some t → args[j]? = some v → Value.okWide Tryz.prog W .any base t v := hval0
  have hW' := hW
  obtain ⟨p, q, hA0, hV, rfl, hfz, hnd⟩ := hW
  have hA : DataW.TrodAll enc Tryz.prog W 0 (fun _ => true) true Tryz.f3.params.toList args.toList ds p := hA0
  rw [Tryz.params3] at hA hval
  obtain ⟨v0, vs0, x0, ds0, p0, q0, hargs0, rfl, rfl, H0, r0⟩ := trodAll_cons hA
  obtain ⟨v1, vs1, x1, ds1, p1, q1, hargs1, rfl, rfl, H1, r1⟩ := trodAll_cons r0
  obtain ⟨rfl, rfl, rfl⟩ := trodAll_nil r1
  subst hargs1
  obtain rfl : args = #[v0, v1] := by cases args; simp_all
  obtain ⟨rfl, rfl⟩ := trodVars_none hV
  have k0 := H0
  have k1 := H1
  have lt0 : ∀ x ∈ p0, x.block < W.heap.size := by obtain ⟨m, hm⟩ := k0; exact DataW.trod_lt m _ _ _ hm
  have lt1 : ∀ x ∈ p1, x.block < W.heap.size := by obtain ⟨m, hm⟩ := k1; exact DataW.trod_lt m _ _ _ hm
  obtain ⟨n0, rfl, hw0⟩ := open_int Tryz.underlying5 (hval 0 5 v0 rfl rfl) H0
  obtain ⟨s, rfl, hs⟩ := u8_nat hw0.2.2
  obtain ⟨a0, len0, cap0, rfl⟩ := okWide_slice Tryz.underlying22 (hval 1 22 v1 rfl rfl)
  have hK : Rows.uptoBulk x1 ≤ 1048576 := by
    have h := bulks.bound hk
    simp only [List.append_nil, Rows.uptoBulkAll] at h
    omega
  obtain ⟨L, hL, hL1, hL2⟩ := open_ActS H1 1048576 hK
  clear hA0 hval0
  refine (slotsPlay_any s hs a0 len0 cap0 L W hL hL1 hL2).mono fun e W' ⟨he, bel⟩ => ?_
  subst he
  exact ⟨_, rfl, _, _, _, [], _, [], hW', trodAll_mk1 (shut_bool Tryz.underlying4 _), (trodAll_cons_mk (Below.trod laidOut (by kernel_rfl) (of_decide_eq_true (by kernel_rfl)) k0 bel lt0) (trodAll_cons_mk (Below.trod laidOut (by kernel_rfl) (of_decide_eq_true (by kernel_rfl)) k1 bel lt1) trodAll_mk0)), rfl, bel.frame _, fun h => by cases h⟩

theorem laid_met (os : Os) : laidMet Tryz.prog Rows.slotsPlayUptoRow.laid ((World.doorLaid Tryz.prog 400 os).forCall (fun _ _ => 0) ⟨#[], #[.int .u8 0, .slice none 0 0], []⟩).memory :=
  laidMet_of_run' 8 (by kernel_rfl) (by kernel_rfl)
theorem reads (os : Os) {H : Type} (enc : TypeId × Value → H) : ∃ places, DataW.whole enc Tryz.prog ((World.doorLaid Tryz.prog 400 os).forCall (fun _ _ => 0) ⟨#[], #[.int .u8 0, .slice none 0 0], []⟩).memory Tryz.f3.params.toList Rows.slotsPlaySpec.vars false #[Value.int .u8 0, .slice none 0 0].toList 8 = some ([.lit (.int .u8 0), .nil], [], places) :=
  ⟨[], by kernel_rfl⟩

theorem slotsPlay_lifted (os : Os) (started : os.Started) (H : Type) (enc : TypeId × Value → H) (F : Stop.Interp) :
    ReturnsInHanded {} Tryz.checked os 3 .any ((Rows.OpenSpec.upto Rows.slotsPlaySpec).preRow enc Tryz.prog Tryz.f3 Rows.slotsPlayUptoRow.domain false Rows.slotsPlayUptoRow.laid) (((Rows.OpenSpec.upto Rows.slotsPlaySpec).at F).post enc Tryz.prog Tryz.f3 false true false false) := by
  obtain ⟨places, hx⟩ := reads os enc
  refine returnsInHanded_of_row (C := Tryz.checked) (s := Rows.OpenSpec.upto Rows.slotsPlaySpec) own started (by kernel_rfl) Tryz.func3
    (witness_row_at (enc := enc) (C := Tryz.checked) false (World.doorLaid Tryz.prog 400 os) #[.int .u8 0, .slice none 0 0] rfl (by kernel_rfl) (by kernel_rfl) (by kernel_rfl)
      (OpenSpec.preRow_of_cond 8 hx (by kernel_rfl) (fun k hk => by cases hk; kernel_rfl) (by kernel_rfl) (laid_met os))) ?_
  intro W base args ds gs before hval hW _ hcond _ hL _ _
  exact slotsPlay_contract H enc W base args ds gs before hval hW (hcond _ rfl)

theorem slotsPlay_upto : Rows.SlotsPlayUptoSaid :=
  OpenClaim.holds_of_cond 3 Tryz.f3 rfl rfl rfl rfl rfl rfl rfl ⟨rfl, rfl, rfl, rfl, rfl⟩ rfl rfl rfl rfl rfl (by kernel_rfl) Tryz.func3 (by kernel_rfl)
    (of_decide_eq_true (by kernel_rfl)) (by unfold Func.isWrapper; first | (rw [if_pos (by decide +kernel)]; kernel_rfl) | (rw [if_neg (by decide +kernel)]; exact ⟨rfl, rfl⟩))
    (fun os started H enc _ F => by rw [OpenClaim.pre_eq_preRow]; exact slotsPlay_lifted os started H enc F)

theorem slotsPlay_plain (f : FuncId) (fn : Func) (hf : Tryz.pinned.checked.prog.funcNamed "salesroom/salesroomlaw19.SlotsPlay" = some f) (hfn : Tryz.pinned.checked.prog.funcs[f]? = some fn) :
    false = Tryz.pinned.checked.prog.looks [] ∧ ∀ (j : Nat) t, fn.params[j]? = some t → Tryz.pinned.checked.prog.wantsStandIn t = false := by
  obtain rfl : f = 3 := Option.some.inj ((show Tryz.prog.funcNamed "salesroom/salesroomlaw19.SlotsPlay" = some 3 by kernel_rfl).symm.trans hf) |>.symm
  obtain rfl : fn = Tryz.f3 := (Option.some.inj (Tryz.func3.symm.trans hfn)).symm
  refine ⟨by kernel_rfl, fun j t ht => ?_⟩
  rw [Tryz.params3] at ht
  have hm : t ∈ [5, 22] := by simpa using Array.mem_of_getElem? ht
  have hall : ([5, 22].all fun u => !Tryz.prog.wantsStandIn u) = true := by kernel_rfl
  exact (show Tryz.prog.wantsStandIn t = false by simpa using List.all_eq_true.1 hall t hm)

theorem slotsPlay_card : Rows.SlotsPlayUptoCardSaid :=
  Claim7.holds_tied_plain_at .later [] _ _ _ _ slotsPlay_upto (fun _ h => by cases h) (by kernel_rfl) (fun _ h => by cases h) slotsPlayUpto_row_tie rfl ⟨rfl, rfl⟩ (by kernel_rfl) rfl slotsPlay_plain (by kernel_rfl)
#print axioms slotsPlay_card

end Go.Proofs.YthenakdfdpdknaaGreatDoor
