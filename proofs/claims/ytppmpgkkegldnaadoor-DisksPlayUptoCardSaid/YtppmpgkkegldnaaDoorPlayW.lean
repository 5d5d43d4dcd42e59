/- The statement DisksPlay: what it returns; conditions: those typed. -/
import Derived.Test.YtppmpgkkegldnaaDoorPlayF
namespace Go.Proofs.YtppmpgkkegldnaaDoor
open Go.RowKit
set_option linter.unusedVariables false
set_option linter.unusedSimpArgs false
set_option maxRecDepth 100000

theorem sizeAct : (Tryd.prog.info? 44).map (·.size) = some 3 := by kernel_rfl
theorem zeroBook : (Tryd.prog.info? 41).map (·.zero) = some (some (.agg (bookC 0 (.slice none 0 0)))) := by kernel_rfl

set_option maxHeartbeats 8000000 in
theorem disksPlay_any (size : Int) (a : Option Addr) (m c : Nat) (L : List ActD) (w : World) (h : IsActs w a m c L) (h1 : L.length ≤ 1048576) (h2 : ∀ x ∈ L, x.b.length ≤ 1048576) :
    Calls Tryd.prog 3 #[.int .i64 size, .slice a m c] w fun e w' => e = .returned (.bool true) ∧ Below w.heap.size w w' := by
  have H0 := Lib.hid h
  have HG := great_any a m c L w h h1 h2
  obtain rfl := h.1
  clear h
  by_cases hg : 600 < gsum L
  · rw [decide_eq_true hg] at HG
    go_enter Tryd.func3, Tryd.ntmps3
    go_wp2_with fail
    refine HG.mono ?_; rintro e w' ⟨rfl, rfl⟩
    go_wp2
    go_ret
    exact ⟨rfl, Below.refl _ _⟩
  rw [decide_eq_false hg] at HG
  by_cases hs : size < 1 ∨ 1024 < size
  · have hn1 := new_bad size w hs
    have hn2 := rnew_bad size w hs
    go_enter Tryd.func3, Tryd.ntmps3
    go_wp2_with fail
    refine HG.mono ?_; rintro e w' ⟨rfl, rfl⟩
    go_wp2_with fail
    refine hn1.mono ?_; rintro e w' ⟨rfl, rfl⟩
    go_wp2_with fail
    refine hn2.mono ?_; rintro e w' ⟨rfl, rfl⟩
    go_wp2
    go_ret
    exact ⟨rfl, Below.refl _ _⟩
  obtain ⟨n, rfl⟩ := Int.eq_ofNat_of_zero_le (show 0 ≤ size by omega)
  have hL3 : L.length ≤ 300 := by have := gsum_len L; omega
  have HB3 : Hid (∀ x ∈ L, x.b.length ≤ 20000) := Lib.hid (fun x hx => by have := gsum_mem L x hx; omega)
  clear h1 h2 hg
  go_enter Tryd.func3, Tryd.ntmps3
  go_wp2_with fail
  refine HG.mono ?_; rintro e w' ⟨rfl, rfl⟩
  go_wp2_with fail
  refine (new_good n w (by omega) (by omega)).mono ?_; rintro e w1 ⟨bd, bl, rfl, hb1, g1, g2, hd1⟩
  go_wp2_with fail
  refine (rnew_good n w1 (by omega) (by omega)).mono ?_; rintro e w2 ⟨rd, rl, rc, rfl, hb2, hr2⟩
  go_wp2_with (first
    | (refine wpList_alloc_any rfl 41 rfl _ zeroBook _ rfl ?_)
    | fail)
  have HS := Lib.hid (PSt.start hb1 g1 g2 hd1 hb2 hr2)
  obtain ⟨bk, hbk⟩ : ∃ bk, bk = w2.heap.size := ⟨_, rfl⟩
  rw [← hbk] at HS ⊢
  generalize w2.alloc (.cells (bookC 0 (.slice none 0 0)) 41) = w3 at HS ⊢
  clear hb1 g1 g2 hd1 hb2 hr2 hbk HG
  obtain ⟨M, hM⟩ : ∃ M, M = L.length := ⟨_, rfl⟩
  have HM := Lib.hid hM
  rw [← hM] at hL3
  clear hM
  go_loopw [5, 7, 10] (fun d r i wr => ∃ (k bd bl rd rl rc N : Nat) (bs : Value) (D R : Dsk) (H : List Hl), k ≤ M ∧ d = .pointer (some ⟨bd, 0, none⟩) ∧ r = .pointer (some ⟨rd, 0, none⟩) ∧ i = .int .i64 k ∧ Hid (PSt w wr bd bl rd rl rc bk N bs D R H) ∧ Hid (N ≤ 2 * k ∧ H.length ≤ 2 * k ∧ 0 ≤ D.writes ∧ D.writes ≤ k)) (fun d r i _ => M - (intOf i).toNat)
  case atStart => exact ⟨0, bd, bl, rd, rl, rc, 0, _, _, _, [], Nat.zero_le _, rfl, rfl, rfl, HS, Lib.hid ⟨by omega, by simp, by dsimp only; omega, by dsimp only; omega⟩⟩
  case round =>
    clear HS
    obtain ⟨k, bd, bl, rd, rl, rc, N, bs, D, R, H, hk, rfl, rfl, rfl, HS, HC⟩ := hrel
    by_cases hlt : k < M
    · have hkL : k < L.length := by rw [← HM.out]; exact hlt
      obtain ⟨_, _, _, h3 | ⟨b, off, rfl, hblt, hc⟩⟩ := H0.out
      · rw [h3] at hkL; simp at hkL
      obtain ⟨c1, c2, c3, ai, ni, ci, c4, hB0⟩ := hc k hkL
      have c1 := (HS.out.below.cell (p := ⟨b, _, none⟩) hblt).trans c1
      have c2 := (HS.out.below.cell (p := ⟨b, _, none⟩) hblt).trans c2
      have c4 := (HS.out.below.cell (p := ⟨b, _, none⟩) hblt).trans c4
      have hB := hB0.below HS.out.below
      obtain ⟨x, hx⟩ : ∃ x, x = L[k] := ⟨_, rfl⟩
      rw [← hx] at c1 c2 c3 hB hB0
      have hbl3 : x.b.length ≤ 20000 := HB3.out x (by rw [hx]; exact List.getElem_mem hkL)
      obtain ⟨kd, hkd⟩ : ∃ kd, kd = x.kind.toNat := ⟨_, rfl⟩
      obtain ⟨xn, hxn⟩ : ∃ xn, xn = x.n := ⟨_, rfl⟩
      rw [← hkd] at c1
      rw [← hxn] at c2 c3
      have RA : Hid (wr.rangeAt b (off + k * 3) [.int .u8 kd, .int .i64 xn, .slice ai ni ci]) := Lib.hid (fun j v hj => by
        match j, hj with
        | 0, hj => simp at hj; subst hj; exact c1
        | 1, hj => simp at hj; subst hj; exact c2
        | 2, hj => simp at hj; subst hj; exact c4)
      have HB := Lib.hid hB
      have HBW := Lib.hid hB0
      have HKD := Lib.hid hkd
      have HC3 := Lib.hid c3
      have HXN := Lib.hid hxn
      clear hc c1 c2 c3 c4 hB hB0 hx hkd hxn
      go_wp2_with (first
        | (refine wpList_load_mid rfl 44 (.tmp 58) rfl b (off + k * 3) rfl [.int .u8 kd, .int .i64 xn, .slice ai ni ci] _ RA.out Tryd.underlying44 rfl sizeAct ?_)
        | fail)
      have hni : ni = x.b.length := HB.out.1
      subst hni
      have hbx : Below wr.heap.size wr (wr.alloc (.cells #[.int .u8 kd, .int .i64 xn, .slice ai x.b.length ci] 44)) := (Below.refl _ _).alloc (Nat.le_refl _) _
      have HX1 := Lib.hid (heap_new wr (.cells #[.int .u8 kd, .int .i64 xn, .slice ai x.b.length ci] 44 (0, 0)))
      have HS1 := Lib.hid (HS.out.after hbx)
      have HB1 := Lib.hid (HB.out.below hbx)
      obtain ⟨hx, hhx⟩ : ∃ hx, hx = wr.heap.size := ⟨_, rfl⟩
      rw [← hhx] at HX1 ⊢
      generalize wr.alloc (.cells #[.int .u8 kd, .int .i64 xn, .slice ai x.b.length ci] 44) = w1 at HX1 HS1 HB1 ⊢
      clear HS hbx hhx HB RA
      refine (twin_any ai x.b.length ci x.b w1 (by omega) HB1.out).mono ?_
      rintro e w2 ⟨rfl, hb2, hown2⟩
      obtain ⟨htw, hgB⟩ := Tw.of hown2
      have HAP := Lib.hid (HS1.out.book.old w1.heap.size (Nat.le_refl _) x.b.length (x.b.length + 1))
      have HS2 := Lib.hid (HS1.out.after hb2)
      have HTB := Lib.hid (Nat.le_trans HS1.out.below.size hgB)
      have HX2 := Lib.hid (below_heap hb2 HX1.out (lt_of_heap HX1.out))
      have HT2 := Lib.hid htw
      obtain ⟨tg, htg⟩ : ∃ tg, tg = w1.heap.size := ⟨_, rfl⟩
      rw [← htg] at HAP HTB HT2 ⊢
      clear hb2 hown2 htw hgB htg HX1 HS1 HB1
      have v0 : w2.cell? ⟨hx, 0, none⟩ = some (.int .u8 kd) := by rw [cell_of_block HX2.out]; rfl
      have v1 : w2.cell? ⟨hx, 1, none⟩ = some (.int .i64 xn) := by rw [cell_of_block HX2.out]; rfl
      have v2 : w2.cell? ⟨hx, 2, none⟩ = some (.slice ai x.b.length ci) := by rw [cell_of_block HX2.out]; rfl
      go_wp2_with fail
      · -- a read
        refine (dread_any bd bl D xn w2 HS2.out.disk).mono ?_; rintro e w3 ⟨a1, m1, c1, rfl, hb3, hl1, hbk1⟩
        have HS3 := Lib.hid (HS2.out.after hb3)
        have HX3 := Lib.hid (below_heap hb3 HX2.out (lt_of_heap HX2.out))
        have HT3 : Hid (Tw w3 tg x.b) := Lib.hid (below_heap hb3 HT2.out (lt_of_heap HT2.out))
        have v1 : w3.cell? ⟨hx, 1, none⟩ = some (.int .i64 xn) := by rw [cell_of_block HX3.out]; rfl
        go_wp2_with fail
        refine (rread_any _ rd rl rc R xn w3 HS3.out.ref).mono ?_; rintro e w4 ⟨a2, m2, c2, rfl, hb4, hl2⟩
        rw [HS3.out.same.read] at hl2 ⊢
        have HS4 := Lib.hid (HS3.out.after hb4)
        have HX4 := Lib.hid (below_heap hb4 HX3.out (lt_of_heap HX3.out))
        have HT4 : Hid (Tw w4 tg x.b) := Lib.hid (below_heap hb4 HT3.out (lt_of_heap HT3.out))
        have hl1' := hl1.below hb4
        go_wp2_with fail
        refine (sameB_any a1 a2 m1 m2 c1 c2 _ _ w4 hl1' hl2).mono ?_; rintro e w5 ⟨rfl, j5, hw5⟩
        rw [decide_eq_true rfl]
        have hb5 : Below w4.heap.size w4 w5 := by rw [hw5]; exact below_drewN (Below.refl _ _) j5
        have HS5 := Lib.hid (HS4.out.after hb5)
        have HX5 := Lib.hid (below_heap hb5 HX4.out (lt_of_heap HX4.out))
        have HT5 : Hid (Tw w5 tg x.b) := Lib.hid (below_heap hb5 HT4.out (lt_of_heap HT4.out))
        have hok : HOk w5 w.heap.size ⟨a1, m1, c1⟩ ∧ m1 ≤ 64 ∧ (∀ i (hi : i < H.length), ∀ g', H[i].l.a = some ⟨g', 0, none⟩ → (Hd.mk a1 m1 c1).a ≠ some ⟨g', 0, none⟩) ∧ a1 ≠ some ⟨tg, 0, none⟩ := by
          rcases hbk1 with ⟨rfl, rfl, rfl⟩ | ⟨g, rfl, rfl, rfl, hg, l, hl, hr⟩
          · exact ⟨hok_nil _ _, by omega, fun i hi g' e => by simp, by simp⟩
          · have hr5 : RowB w5 g l := below_heap hb5 (below_heap hb4 hr (lt_of_heap hr)) (Nat.lt_of_lt_of_le (lt_of_heap hr) hb4.size)
            refine ⟨hok_read hr5 hl (Nat.le_trans HS2.out.below.size hg), by omega, HS2.out.book.old g hg 64 64, fun e => ?_⟩
            cases e
            have := lt_of_heap HT2.out
            omega
        have HOK := Lib.hid hok
        clear hb3 hb4 hb5 hl1 hl1' hl2 hbk1 hw5 hok v0 v1 v2
        go_wp2_with fail
        refine (bytes_any w5 w.heap.size bk N bs H HS5.out.book ⟨a1, m1, c1⟩ HOK.out.1 HOK.out.2.2.1 (by have := HC.out; omega) (by have := HC.out; omega)).mono ?_
        rintro e w6 ⟨rfl, ht6, bs6, hk6⟩
        have HS6 := Lib.hid (HS5.out.kept ht6 hk6 (by have := HOK.out.2.1; dsimp only; omega))
        have HX6 := Lib.hid (ht6.heap HX5.out (bkS_ne HX5.out (by decide) (by decide)))
        have HT6 : Hid (Tw w6 tg x.b) := Lib.hid (ht6.heap HT5.out (bkS_ne HT5.out (by decide) (by decide)))
        have HAP6 : Hid (∀ i (hi : i < (H ++ [(⟨⟨a1, m1, c1⟩, ⟨none, 0, 0⟩, N + 1⟩ : Hl)]).length), ∀ g', (H ++ [(⟨⟨a1, m1, c1⟩, ⟨none, 0, 0⟩, N + 1⟩ : Hl)])[i].l.a = some ⟨g', 0, none⟩ → (Hd.mk (some ⟨tg, 0, none⟩) x.b.length (x.b.length + 1)).a ≠ some ⟨g', 0, none⟩) := Lib.hid (fun i hi g' => by
          by_cases hil : i < H.length
          · rw [List.getElem_append_left hil]; exact HAP.out i hil g'
          · have : i = H.length := by simp at hi; omega
            subst this
            intro e e2
            rw [List.getElem_append_right (Nat.le_refl _)] at e
            simp at e
            cases e2
            exact HOK.out.2.2.2 e)
        have hlen6 : (H ++ [(⟨⟨a1, m1, c1⟩, ⟨none, 0, 0⟩, N + 1⟩ : Hl)]).length = H.length + 1 := by simp
        obtain ⟨H6, hH6⟩ : ∃ H6, H6 = H ++ [(⟨⟨a1, m1, c1⟩, ⟨none, 0, 0⟩, N + 1⟩ : Hl)] := ⟨_, rfl⟩
        rw [← hH6] at HS6 HAP6 hlen6
        clear hH6
        have HC6 := Lib.hid (show N + 1 ≤ 2 * k + 1 ∧ H6.length ≤ 2 * k + 1 ∧ 0 ≤ D.writes ∧ D.writes ≤ k by have := HC.out; omega)
        clear ht6 hk6

        have u2 : w6.cell? ⟨hx, 2, none⟩ = some (.slice ai x.b.length ci) := by rw [cell_of_block HX6.out]; rfl
        go_wp2_with fail
        refine (blown_disk bd bl D w6 HS6.out.disk).mono ?_; rintro e w' ⟨rfl, rfl⟩
        go_wp2_with fail
        refine (rblown_any _ rd rl rc R w6 HS6.out.ref).mono ?_; rintro e w' ⟨rfl, rfl⟩
        rw [HS6.out.same.2.1]
        go_wp2_with fail
        refine (writes_disk bd bl D w6 HS6.out.disk).mono ?_; rintro e w' ⟨rfl, rfl⟩
        go_wp2_with fail
        refine (rwrites_any _ rd rl rc R w6 HS6.out.ref).mono ?_; rintro e w' ⟨rfl, rfl⟩
        rw [HS6.out.same.2.2.1]
        go_wp2_with fail
        refine (len_disk bd bl D w6 HS6.out.disk).mono ?_; rintro e w' ⟨rfl, rfl⟩
        go_wp2_with fail
        refine (rlen_any _ rd rl rc R w6 HS6.out.ref).mono ?_; rintro e w' ⟨rfl, rfl⟩
        rw [HS6.out.same.1]
        go_wp2_with fail
        refine (left_any tg ai x.b.length ci x.b w6 (by omega) (HBW.out.below HS6.out.below) HT6.out.twin).mono ?_; rintro e w8 ⟨rfl, hb8⟩
        have HS8 := Lib.hid (HS6.out.after hb8)
        have HT8 : Hid (Tw w8 tg x.b) := Lib.hid (below_heap hb8 HT6.out (lt_of_heap HT6.out))
        clear hb8 u2
        go_wp2_with fail
        refine (bytes_any w8 w.heap.size bk (N + 1) bs6 H6 HS8.out.book ⟨some ⟨tg, 0, none⟩, x.b.length, x.b.length + 1⟩ (HT8.out.hok HTB.out (by unfold maxLen; omega)) HAP6.out (by have := HC6.out; omega) (by have := HC6.out; omega)).mono ?_
        rintro e w9 ⟨rfl, ht9, bs9, hk9⟩
        have HS9 := Lib.hid (HS8.out.kept ht9 hk9 (by dsimp only; omega))
        clear ht9 hk9
        go_wp2_with fail
        go_roundw
        case rel => exact ⟨k + 1, _, _, _, _, _, _, _, _, _, _, by omega, rfl, rfl, by go_num, HS9, Lib.hid (by have := HC6.out; refine ⟨?_, ?_, ?_, ?_⟩ <;> (try simp only [List.length_append, List.length_singleton]) <;> omega)⟩
        case measure => simp [intOf]; omega
      · -- a fuse
        have HSd := Lib.hid (HS2.out.after (Below.refl w2.heap.size w2).drew)
        have HXd : Hid (w2.drew.heap[hx]? = some (.cells #[.int .u8 kd, .int .i64 xn, .slice ai x.b.length ci] 44 (0, 0))) := HX2
        have v1d : w2.drew.cell? ⟨hx, 1, none⟩ = some (.int .i64 xn) := v1
        have hcode : fcode R.blown = fcode D.blown := by rw [HS2.out.same.2.1]
        go_region_held3 (fun w' => w'.cell? ⟨hx, 1, none⟩ = some (.int .i64 xn)) (first | with_reducible exact v1d | exact q4 | exact q3) (first
          | (go_at_call 12; refine (dfuse_any bd bl D xn w2.drew HSd.out.disk).mono ?_; rintro e w3 ⟨rfl, ht3, hd3⟩; have HX3 := Lib.hid (ht3.heap HXd.out (HSd.out.disk.ne HXd.out (by decide) (by decide))); have q3 : w3.cell? ⟨hx, 1, none⟩ = some (.int .i64 xn) := by rw [cell_of_block HX3.out]; rfl
             have hr3 := HSd.out.ref.touch ht3 (noRef_disk HSd.out.disk))
          | (go_at_call 13; refine (rfuse_c _ rd rl rc R xn w3 hr3).mono ?_; rintro e w4 ⟨he, ht4, hr4⟩; rw [hcode] at he; subst he; have ht4 := ht4.weaken (T := fun k => k = rd ∨ k = rl) (fun k _ hk => .inl hk); have HX4 := Lib.hid (ht4.heap HX3.out (hr3.ne HX3.out (by decide) (by decide))); have q4 : w4.cell? ⟨hx, 1, none⟩ = some (.int .i64 xn) := by rw [cell_of_block HX4.out]; rfl)
          | fail)
        have hff := HS2.out.same.fuses xn
        have HS4 := Lib.hid (HSd.out.both ht3 hd3 ht4 hr4 hff (fuse_left D R xn HS2.out.left HC3.out.2))
        have HT4 : Hid (Tw w4 tg x.b) := Lib.hid (ht4.heap (ht3.heap (show w2.drew.heap[tg]? = _ from HT2.out) (HSd.out.disk.ne (show w2.drew.heap[tg]? = _ from HT2.out) (by decide) (by decide))) (hr3.ne (ht3.heap (show w2.drew.heap[tg]? = _ from HT2.out) (HSd.out.disk.ne (show w2.drew.heap[tg]? = _ from HT2.out) (by decide) (by decide))) (by decide) (by decide)))
        obtain ⟨D4, hD4⟩ : ∃ D4, D4 = (if D.blown then D else { D with left := xn }) := ⟨_, rfl⟩
        obtain ⟨R4, hR4⟩ : ∃ R4, R4 = (if R.blown then R else { R with left := max (-1) xn }) := ⟨_, rfl⟩
        rw [← hD4, ← hR4] at HS4
        have HC4 := Lib.hid (show N ≤ 2 * k ∧ H.length ≤ 2 * k ∧ 0 ≤ D4.writes ∧ D4.writes ≤ k by
          have := HC.out
          have e : D4.writes = D.writes := by rw [hD4]; split <;> rfl
          rw [e]; omega)
        clear ht3 hd3 ht4 hr4 hr3 hff q3 q4 hD4 hR4 HSd HXd v1d hcode v0 v1 v2

        have u2 : w4.cell? ⟨hx, 2, none⟩ = some (.slice ai x.b.length ci) := by rw [cell_of_block HX4.out]; rfl
        go_wp2_with fail
        refine (blown_disk bd bl D4 w4 HS4.out.disk).mono ?_; rintro e w' ⟨rfl, rfl⟩
        go_wp2_with fail
        refine (rblown_any _ rd rl rc R4 w4 HS4.out.ref).mono ?_; rintro e w' ⟨rfl, rfl⟩
        rw [HS4.out.same.2.1]
        go_wp2_with fail
        refine (writes_disk bd bl D4 w4 HS4.out.disk).mono ?_; rintro e w' ⟨rfl, rfl⟩
        go_wp2_with fail
        refine (rwrites_any _ rd rl rc R4 w4 HS4.out.ref).mono ?_; rintro e w' ⟨rfl, rfl⟩
        rw [HS4.out.same.2.2.1]
        go_wp2_with fail
        refine (len_disk bd bl D4 w4 HS4.out.disk).mono ?_; rintro e w' ⟨rfl, rfl⟩
        go_wp2_with fail
        refine (rlen_any _ rd rl rc R4 w4 HS4.out.ref).mono ?_; rintro e w' ⟨rfl, rfl⟩
        rw [HS4.out.same.1]
        go_wp2_with fail
        refine (left_any tg ai x.b.length ci x.b w4 (by omega) (HBW.out.below HS4.out.below) HT4.out.twin).mono ?_; rintro e w8 ⟨rfl, hb8⟩
        have HS8 := Lib.hid (HS4.out.after hb8)
        have HT8 : Hid (Tw w8 tg x.b) := Lib.hid (below_heap hb8 HT4.out (lt_of_heap HT4.out))
        clear hb8 u2
        go_wp2_with fail
        refine (bytes_any w8 w.heap.size bk N bs H HS8.out.book ⟨some ⟨tg, 0, none⟩, x.b.length, x.b.length + 1⟩ (HT8.out.hok HTB.out (by unfold maxLen; omega)) HAP.out (by have := HC4.out; omega) (by have := HC4.out; omega)).mono ?_
        rintro e w9 ⟨rfl, ht9, bs9, hk9⟩
        have HS9 := Lib.hid (HS8.out.kept ht9 hk9 (by dsimp only; omega))
        clear ht9 hk9
        go_wp2_with fail
        go_roundw
        case rel => exact ⟨k + 1, _, _, _, _, _, _, _, _, _, _, by omega, rfl, rfl, by go_num, HS9, Lib.hid (by have := HC4.out; refine ⟨?_, ?_, ?_, ?_⟩ <;> (try simp only [List.length_append, List.length_singleton]) <;> omega)⟩
        case measure => simp [intOf]; omega
      · -- a copy
        refine (copy_disk bd bl D w2 HS2.out.disk).mono ?_; rintro e w3 ⟨cd, cl, rfl, hb3, k1, k2, hc3⟩
        have HS3 := Lib.hid (HS2.out.after hb3)
        have HX3 := Lib.hid (below_heap hb3 HX2.out (lt_of_heap HX2.out))
        have HT3 : Hid (Tw w3 tg x.b) := Lib.hid (below_heap hb3 HT2.out (lt_of_heap HT2.out))
        go_wp2_with fail
        refine (blown_disk cd cl _ w3 hc3).mono ?_; rintro e w' ⟨rfl, rfl⟩
        go_wp2_with fail
        refine (writes_disk cd cl _ w3 hc3).mono ?_; rintro e w' ⟨rfl, rfl⟩
        go_wp2_with fail
        have hb4 : Below w3.heap.size w3 (w3.alloc (.cells #[.int .u8 1] 5)) := (Below.refl _ _).alloc (Nat.le_refl _) _
        have HS4 := Lib.hid (HS3.out.after hb4)
        refine (write_any bd bl D 0 _ 1 1 [1] _ HS4.out.disk (one_isB w3) ⟨HC.out.2.2.1, by have := HC.out; omega, HS2.out.left.1⟩).mono ?_; rintro e w5 ⟨rfl, ht5, hd5⟩
        have HX4 := Lib.hid (below_heap hb4 HX3.out (lt_of_heap HX3.out))
        have HT4 : Hid (Tw _ tg x.b) := Lib.hid (below_heap hb4 HT3.out (lt_of_heap HT3.out))
        have HX5 := Lib.hid (ht5.heap HX4.out (HS4.out.disk.ne HX4.out (by decide) (by decide)))
        have HT5 : Hid (Tw w5 tg x.b) := Lib.hid (ht5.heap HT4.out (HS4.out.disk.ne HT4.out (by decide) (by decide)))
        have hr5 := HS4.out.ref.touch ht5 (noRef_disk HS4.out.disk)
        go_wp2_with fail
        refine (rcopy_any _ rd rl rc R w5 hr5).mono ?_; rintro e w6 ⟨sd, sl, sc, rfl, hb6, hr6⟩
        have HS6 := Lib.hid (HS2.out.copied hb3 k1 k2 hc3 hb4 ht5 hb6 hr6)
        have HX6 := Lib.hid (below_heap hb6 HX5.out (lt_of_heap HX5.out))
        have HT6 : Hid (Tw w6 tg x.b) := Lib.hid (below_heap hb6 HT5.out (lt_of_heap HT5.out))
        obtain ⟨D6, hD6⟩ : ∃ D6 : Dsk, D6 = ⟨D.secs, -1, false, 0⟩ := ⟨_, rfl⟩
        obtain ⟨R6, hR6⟩ : ∃ R6 : Dsk, R6 = ⟨R.secs, -1, false, 0⟩ := ⟨_, rfl⟩
        have HC6 := Lib.hid (show N ≤ 2 * k ∧ H.length ≤ 2 * k ∧ 0 ≤ D6.writes ∧ D6.writes ≤ k by
          have := HC.out
          rw [hD6]; dsimp only; omega)
        rw [← hD6, ← hR6] at HS6
        clear hb3 hb4 hb6 hc3 k1 k2 ht5 hd5 hr5 hr6 HS3 HS4 HX3 HX4 HT3 HT4 hD6 hR6 v0 v1 v2

        have u2 : w6.cell? ⟨hx, 2, none⟩ = some (.slice ai x.b.length ci) := by rw [cell_of_block HX6.out]; rfl
        go_wp2_with fail
        refine (blown_disk cd cl D6 w6 HS6.out.disk).mono ?_; rintro e w' ⟨rfl, rfl⟩
        go_wp2_with fail
        refine (rblown_any _ sd sl sc R6 w6 HS6.out.ref).mono ?_; rintro e w' ⟨rfl, rfl⟩
        rw [HS6.out.same.2.1]
        go_wp2_with fail
        refine (writes_disk cd cl D6 w6 HS6.out.disk).mono ?_; rintro e w' ⟨rfl, rfl⟩
        go_wp2_with fail
        refine (rwrites_any _ sd sl sc R6 w6 HS6.out.ref).mono ?_; rintro e w' ⟨rfl, rfl⟩
        rw [HS6.out.same.2.2.1]
        go_wp2_with fail
        refine (len_disk cd cl D6 w6 HS6.out.disk).mono ?_; rintro e w' ⟨rfl, rfl⟩
        go_wp2_with fail
        refine (rlen_any _ sd sl sc R6 w6 HS6.out.ref).mono ?_; rintro e w' ⟨rfl, rfl⟩
        rw [HS6.out.same.1]
        go_wp2_with fail
        refine (left_any tg ai x.b.length ci x.b w6 (by omega) (HBW.out.below HS6.out.below) HT6.out.twin).mono ?_; rintro e w8 ⟨rfl, hb8⟩
        have HS8 := Lib.hid (HS6.out.after hb8)
        have HT8 : Hid (Tw w8 tg x.b) := Lib.hid (below_heap hb8 HT6.out (lt_of_heap HT6.out))
        clear hb8 u2
        go_wp2_with fail
        refine (bytes_any w8 w.heap.size bk N bs H HS8.out.book ⟨some ⟨tg, 0, none⟩, x.b.length, x.b.length + 1⟩ (HT8.out.hok HTB.out (by unfold maxLen; omega)) HAP.out (by have := HC6.out; omega) (by have := HC6.out; omega)).mono ?_
        rintro e w9 ⟨rfl, ht9, bs9, hk9⟩
        have HS9 := Lib.hid (HS8.out.kept ht9 hk9 (by dsimp only; omega))
        clear ht9 hk9
        go_wp2_with fail
        go_roundw
        case rel => exact ⟨k + 1, _, _, _, _, _, _, _, _, _, _, by omega, rfl, rfl, by go_num, HS9, Lib.hid (by have := HC6.out; refine ⟨?_, ?_, ?_, ?_⟩ <;> (try simp only [List.length_append, List.length_singleton]) <;> omega)⟩
        case measure => simp [intOf]; omega
      · -- a write
        have HSd := Lib.hid (HS2.out.after (Below.refl w2.heap.size w2).drew)
        have HXd : Hid (w2.drew.heap[hx]? = some (.cells #[.int .u8 kd, .int .i64 xn, .slice ai x.b.length ci] 44 (0, 0))) := HX2
        have HTd : Hid (Tw w2.drew tg x.b) := HT2
        have v1d : w2.drew.cell? ⟨hx, 1, none⟩ = some (.int .i64 xn) ∧ w2.drew.cell? ⟨hx, 2, none⟩ = some (.slice ai x.b.length ci) := ⟨v1, v2⟩
        have hsw := HS2.out.same.write xn x.b
        have hcode := hsw.1
        go_region_held3 (fun w' => w'.cell? ⟨hx, 1, none⟩ = some (.int .i64 xn) ∧ w'.cell? ⟨hx, 2, none⟩ = some (.slice ai x.b.length ci)) (first | with_reducible exact v1d | exact q4 | exact q3) (first
          | (go_at_call 17; refine (write_any bd bl D xn (some ⟨tg, 0, none⟩) x.b.length (x.b.length + 1) x.b w2.drew HSd.out.disk (HTd.out.twin.isB (by unfold maxLen; omega)) ⟨HC.out.2.2.1, by have := HC.out; omega, HS2.out.left.1⟩).mono ?_; rintro e w3 ⟨rfl, ht3, hd3⟩; have HX3 := Lib.hid (ht3.heap HXd.out (HSd.out.disk.ne HXd.out (by decide) (by decide))); have q3 : w3.cell? ⟨hx, 1, none⟩ = some (.int .i64 xn) ∧ w3.cell? ⟨hx, 2, none⟩ = some (.slice ai x.b.length ci) := by rw [cell_of_block HX3.out, cell_of_block HX3.out]; exact ⟨rfl, rfl⟩
             have hr3 := HSd.out.ref.touch ht3 (noRef_disk HSd.out.disk)
             have hbW3 : Below w.heap.size w w3 := HSd.out.below.trans (ht3.below HSd.out.below.size (fun k hk e => by have := HS2.out.dge; omega)))
          | (go_at_call 19; refine (rwrite_any _ rd rl rc R xn ai x.b.length ci x.b w3 hr3 (HBW.out.below hbW3) ⟨by rw [HS2.out.same.2.2.1]; exact HC.out.2.2.1, by rw [HS2.out.same.2.2.1]; have := HC.out; omega, HS2.out.left.2⟩).mono ?_; rintro e w4 ⟨he, ht4, hr4⟩; rw [hcode] at he; subst he; have HX4 := Lib.hid (ht4.heap HX3.out (hr3.ne HX3.out (by decide) (by decide))); have q4 : w4.cell? ⟨hx, 1, none⟩ = some (.int .i64 xn) ∧ w4.cell? ⟨hx, 2, none⟩ = some (.slice ai x.b.length ci) := by rw [cell_of_block HX4.out, cell_of_block HX4.out]; exact ⟨rfl, rfl⟩)
          | fail)
        have hcnt := D.write_cnt xn x.b
        have hcntR := R.write_cnt xn x.b
        have HS4 := Lib.hid (HSd.out.both ht3 hd3 ht4 hr4 hsw.2 (by have := HS2.out.left; omega))
        have HT4 : Hid (Tw w4 tg x.b) := Lib.hid (ht4.heap (ht3.heap HTd.out (HSd.out.disk.ne HTd.out (by decide) (by decide))) (hr3.ne (ht3.heap HTd.out (HSd.out.disk.ne HTd.out (by decide) (by decide))) (by decide) (by decide)))
        obtain ⟨D4, hD4⟩ : ∃ D4, D4 = (D.write xn x.b).2 := ⟨_, rfl⟩
        obtain ⟨R4, hR4⟩ : ∃ R4, R4 = (R.write xn x.b).2 := ⟨_, rfl⟩
        rw [← hD4, ← hR4] at HS4
        rw [← hD4] at hcnt
        have HC4 := Lib.hid (show N ≤ 2 * k ∧ H.length ≤ 2 * k ∧ 0 ≤ D4.writes ∧ D4.writes ≤ k + 1 by
          have := HC.out
          omega)
        clear ht3 hd3 ht4 hr4 hr3 hsw q3 q4 hD4 hR4 HSd HXd HTd v1d hcode v0 v1 v2 hcnt hcntR hbW3

        have u2 : w4.cell? ⟨hx, 2, none⟩ = some (.slice ai x.b.length ci) := by rw [cell_of_block HX4.out]; rfl
        go_wp2_with fail
        refine (blown_disk bd bl D4 w4 HS4.out.disk).mono ?_; rintro e w' ⟨rfl, rfl⟩
        go_wp2_with fail
        refine (rblown_any _ rd rl rc R4 w4 HS4.out.ref).mono ?_; rintro e w' ⟨rfl, rfl⟩
        rw [HS4.out.same.2.1]
        go_wp2_with fail
        refine (writes_disk bd bl D4 w4 HS4.out.disk).mono ?_; rintro e w' ⟨rfl, rfl⟩
        go_wp2_with fail
        refine (rwrites_any _ rd rl rc R4 w4 HS4.out.ref).mono ?_; rintro e w' ⟨rfl, rfl⟩
        rw [HS4.out.same.2.2.1]
        go_wp2_with fail
        refine (len_disk bd bl D4 w4 HS4.out.disk).mono ?_; rintro e w' ⟨rfl, rfl⟩
        go_wp2_with fail
        refine (rlen_any _ rd rl rc R4 w4 HS4.out.ref).mono ?_; rintro e w' ⟨rfl, rfl⟩
        rw [HS4.out.same.1]
        go_wp2_with fail
        refine (left_any tg ai x.b.length ci x.b w4 (by omega) (HBW.out.below HS4.out.below) HT4.out.twin).mono ?_; rintro e w8 ⟨rfl, hb8⟩
        have HS8 := Lib.hid (HS4.out.after hb8)
        have HT8 : Hid (Tw w8 tg x.b) := Lib.hid (below_heap hb8 HT4.out (lt_of_heap HT4.out))
        clear hb8 u2
        go_wp2_with fail
        refine (bytes_any w8 w.heap.size bk N bs H HS8.out.book ⟨some ⟨tg, 0, none⟩, x.b.length, x.b.length + 1⟩ (HT8.out.hok HTB.out (by unfold maxLen; omega)) HAP.out (by have := HC4.out; omega) (by have := HC4.out; omega)).mono ?_
        rintro e w9 ⟨rfl, ht9, bs9, hk9⟩
        have HS9 := Lib.hid (HS8.out.kept ht9 hk9 (by dsimp only; omega))
        clear ht9 hk9
        go_wp2_with fail
        go_roundw
        case rel => exact ⟨k + 1, _, _, _, _, _, _, _, _, _, _, by omega, rfl, rfl, by go_num, HS9, Lib.hid (by have := HC4.out; refine ⟨?_, ?_, ?_, ?_⟩ <;> (try simp only [List.length_append, List.length_singleton]) <;> omega)⟩
        case measure => simp [intOf]; omega
    · have hke : k = M := by omega
      subst hke
      clear hlt
      have hdd : decide ((k : Int) < (L.length : Int)) = false := by have := HM.out; simp; omega
      have hkk : ¬ (k < L.length) := by have := HM.out; omega
      go_wp2_with fail
      go_loopw [19] (fun i wk => ∃ j : Nat, j ≤ 40 ∧ i = .int .i64 j ∧ Hid (PSt w wk bd bl rd rl rc bk N bs D R H)) (fun i _ => 40 - (intOf i).toNat)
      case atStart => exact ⟨0, by omega, rfl, HS⟩
      case round =>
        clear HS
        obtain ⟨j, hj, rfl, HS⟩ := hrel
        go_wp2_with fail
        refine (rlen_any _ rd rl rc R _ HS.out.ref).mono ?_; rintro e w' ⟨rfl, rfl⟩
        by_cases hlt : j < R.secs.length ∧ j < 40
        · have d1 : decide ((j : Int) < (R.secs.length : Int)) = true := by simp; omega
          have d2 : decide ((j : Int) < (40 : Int)) = true := by simp; omega
          go_wp2_with fail
          refine (dread_any bd bl D j _ HS.out.disk).mono ?_; rintro e w3 ⟨a1, m1, c1, rfl, hb3, hl1, hbk1⟩
          have HS3 := Lib.hid (HS.out.after hb3)
          go_wp2_with fail
          refine (rread_any _ rd rl rc R j w3 HS3.out.ref).mono ?_; rintro e w4 ⟨a2, m2, c2, rfl, hb4, hl2⟩
          rw [HS3.out.same.read] at hl2 ⊢
          have HS4 := Lib.hid (HS3.out.after hb4)
          have hl1' := hl1.below hb4
          go_wp2_with fail
          refine (sameB_any a1 a2 m1 m2 c1 c2 _ _ w4 hl1' hl2).mono ?_; rintro e w5 ⟨rfl, j5, hw5⟩
          rw [decide_eq_true rfl]
          have hb5 : Below w4.heap.size w4 w5 := by rw [hw5]; exact below_drewN (Below.refl _ _) j5
          have HS5 := Lib.hid (HS4.out.after hb5)
          clear hb3 hb4 hb5 hl1 hl1' hl2 hbk1 hw5
          go_wp2_with fail
          go_roundw
          case rel => exact ⟨j + 1, by omega, by go_num, HS5⟩
          case measure => simp [intOf]; omega
        · have d3 : (decide ((j : Int) < (R.secs.length : Int)) && decide ((j : Int) < (40 : Int))) = false := by
            rw [Bool.and_eq_false_iff, decide_eq_false_iff_not, decide_eq_false_iff_not]; omega
          by_cases hl1 : j < R.secs.length
          · have d1 : decide ((j : Int) < (R.secs.length : Int)) = true := by simp; omega
            have d2 : decide ((j : Int) < (40 : Int)) = false := by simp; omega
            go_wp2_with fail
            refine (apart_any _ w.heap.size bk N bs H HS.out.book HS.out.small).mono ?_; rintro e w3 ⟨rfl, hb3⟩
            go_wp2
            go_ret
            exact ⟨rfl, HS.out.below.trans hb3⟩
          · have d1 : decide ((j : Int) < (R.secs.length : Int)) = false := by simp; omega
            go_wp2_with fail
            refine (apart_any _ w.heap.size bk N bs H HS.out.book HS.out.small).mono ?_; rintro e w3 ⟨rfl, hb3⟩
            go_wp2
            go_ret
            exact ⟨rfl, HS.out.below.trans hb3⟩

end Go.Proofs.YtppmpgkkegldnaaDoor
