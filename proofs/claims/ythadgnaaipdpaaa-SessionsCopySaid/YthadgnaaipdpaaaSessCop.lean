/- The statement SessionsCopy; conditions: those typed. -/
import Derived.Test.YthadgnaaipdpaaaSessCopA
import Derived.Deep.Cut
import Derived.Outline
import Derived.StillTailTactics
import Derived.Deep.RegionHeld3
namespace Go.Proofs.Ythadgnaaipdpaaa
open Go.RowKit
set_option linter.unusedVariables false

set_option maxRecDepth 100000 in
set_option maxHeartbeats 4000000 in
theorem scopy_test (ra : Option Addr) (rn rc : Nat) (uv : UInt64) (sa : Option Addr) (sn sc : Nat) (aa : Option Addr) (an ac : Nat) (ua : Option Addr) (un uc : Nat) (who : UInt8) (s lx : UInt32) (pa : Option Addr) (pn pc : Nat) (p : List UInt8) (d0 d1 : List UInt8) (cs cv dL : List Value) (w : World)
    (hcv : cv = cfgL ra rn rc sa sn sc aa an ac ua un uc uv) (hcs : cs = seqsL cv who s lx pa pn pc) (hd0 : d0.length = 16) (hd1 : d1.length = 16) (hdL : dL = bcells d0 ++ bcells d1)
    (L : List (List UInt8)) (ad au : List UInt8) (hL : IsBB w 0 sa sn sc L) (ha : IsB w aa an ac ad) (hu : IsB w ua un uc au) (hp : IsB w pa pn pc p) (hLm : ∀ l ∈ L, l.length ≤ 140737488351232) (ham : ad.length ≤ 140737488351232) (hum : au.length ≤ 140737488351232) :
    Calls Try.prog 5 #[.agg cs.toArray, .agg dL.toArray] w fun e w' => e = .returned (.bool true) ∧ Below w.heap.size w w' := by
  obtain ⟨w0, hw0⟩ : ∃ w0, w0 = (w.alloc (.cells cs.toArray 45)).alloc (.cells dL.toArray 30) := ⟨_, rfl⟩
  have hb0 : w0.heap[w.heap.size]? = some (.cells cs.toArray 45 (0, 0)) := by rw [hw0]; exact below_heap (B := w.heap.size + 1) ((Below.refl _ _).alloc (by simp) _) (heap_new w _) (by omega)
  have hb1 : w0.heap[w.heap.size + 1]? = some (.cells dL.toArray 30 (0, 0)) := by
    have := heap_new (w.alloc (.cells cs.toArray 45)) (.cells dL.toArray 30 (0, 0))
    rw [show (w.alloc (.cells cs.toArray 45)).heap.size = w.heap.size + 1 by simp] at this
    rw [hw0]; exact this
  have hB0 : Below w.heap.size w w0 := by rw [hw0]; exact ((Below.refl _ _).alloc (Nat.le_refl _) _).alloc (by simp) _
  have W0 := Lib.hid hw0
  have HCS := Lib.hid hcs
  have HCV := Lib.hid hcv
  have HCL : Hid (cv.length = 5) := Lib.hid (by rw [hcv]; rfl)
  have R0 := Lib.hid (seqs_range hb0 hcs)
  have HB0 := Lib.hid hB0
  have HR := Lib.hid hb0
  have HRd := Lib.hid hb1
  have HDL := Lib.hid hdL
  clear hw0 hcs hcv hb0 hb1 hB0 hdL
  go_enter Try.func5, Try.ntmps5
  go_wp2_with (first
    | (refine wpList_load_mid rfl 27 (.tmp 19) rfl w.heap.size 0 rfl cv _ ?_ Try.underlying27 rfl (by rw [HCL.out]; exact info_cfg) ?_; · rw [← W0.out]; exact R0.out
       rw [← W0.out])
    | fail)
  have hbz : w.heap.size + 1 < w0.heap.size := lt_of_heap HRd.out
  generalize w.heap.size + 1 = bd at HRd hbz ⊢
  generalize w.heap.size = bz at HR R0 ⊢
  by_cases hn : L.length < 1 ∨ 8 < L.length
  · refine (snewL_bad HCV.out (by rw [hL.1]; exact hn)).mono ?_; rintro e w4 ⟨rfl, hb4⟩
    clear hL ha hu hn hp
    go_wp2_with fail
    refine (lives_any w4).mono ?_; rintro e w5 ⟨rfl, hb5⟩
    go_wp2_with fail
    go_ret
    exact ⟨rfl, (HB0.out.trans (hb4.mono HB0.out.size)).trans (hb5.mono (Nat.le_trans HB0.out.size hb4.size))⟩
  have hn1 : 1 ≤ L.length := by omega
  have hn8 : L.length ≤ 8 := by omega
  clear hn
  obtain ⟨k, hkl, hke, HK⟩ := pick_index who L.length hn1 hn8
  clear hke
  have hne : ((L.length : Int) == 0) = false := by rw [beq_eq_false_iff_ne]; omega
  obtain rfl := hL.1
  obtain rfl := hp.1
  refine (snewL_good HCV.out (hL.below HB0.out) (ha.below HB0.out) (hu.below HB0.out) hn1 hn8 hLm ham hum).mono ?_; rintro e w4 ⟨bt, b1, b2, b3, rfl, hb4, hT4, g1, g2, g3, g4⟩
  have HR4 := Lib.hid (below_heap hb4 HR.out (lt_of_heap HR.out))
  have HB4 := Lib.hid (HB0.out.trans (hb4.mono HB0.out.size))
  obtain ⟨_, hLc, hLc2, hL4⟩ := hL
  obtain ⟨sb, so, rfl, _, hsb, hcell⟩ : ∃ b off, sa = some ⟨b, off, none⟩ ∧ 0 ≤ b ∧ b < w.heap.size ∧ ∀ i (h : i < L.length), ∃ u, w.cell? ⟨b, off + i, none⟩ = some u ∧ ReadAs w 0 u L[i] := by
    rcases hL4 with rfl | h
    · simp at hn1
    · exact h
  obtain ⟨u, hu1, a1, m1, cc1, rfl, hr1, _⟩ := hcell k hkl
  obtain rfl := hr1.1
  have e1 : (newT L ad au).secrets (UInt8.ofNat (k + 1)) = some L[k] := newT_at L ad au k hkl hn8
  have ST4 : Hid (CpSt w4 bz bd cs dL sb (so + k) a1 cc1 L[k] pa pc p) := Lib.hid ⟨HR4.out, below_heap hb4 HRd.out hbz, (HB4.out.cell (p := ⟨sb, so + k, none⟩) hsb).trans hu1, hr1.below HB4.out, hp.below HB4.out⟩
  obtain ⟨c1, c5, c6, c7, c8⟩ := seqs_cells HR4.out HCS.out HCV.out
  have HG : Hid (w.heap.size ≤ b2 ∧ w.heap.size ≤ b3) := Lib.hid ⟨Nat.le_trans HB0.out.size g3, Nat.le_trans HB0.out.size g4⟩
  have eb : (newT L ad au).bidder (UInt8.ofNat (k + 1)) = true := newT_bidder L ad au k hkl hn8
  have es := newT_short L ad au
  generalize L[k] = l at hr1 e1 ST4
  have E1 := Lib.hid e1
  have EB := Lib.hid eb
  have ES := Lib.hid es
  have ek : (1 + (k : Int)) % 256 = ((UInt8.ofNat (k + 1)).toNat : Int) := by simp; omega
  have EK := Lib.hid ek
  have EP := Lib.hid (u8_pred k (by omega))
  clear hcell hL4 hu1 hr1 e1 hLm ha hu hp hb4 g1 g2 g3 g4 ham hum eb es ek hbz HR HRd HR4
  by_cases h5 : 5000 < p.length
  · have h5d : decide ((5000 : Int) < (p.length : Int)) = true := by rw [decide_eq_true_eq]; omega
    clear h5
    go_wp2_with fail
    refine (lives_any w4).mono ?_; rintro e w5 ⟨rfl, hb5⟩
    go_wp2_with fail
    go_ret
    exact ⟨rfl, HB4.out.trans (hb5.mono HB4.out.size)⟩
  have h5d : decide ((5000 : Int) < (p.length : Int)) = false := by rw [decide_eq_false_iff_not]; omega
  have hp5 : p.length ≤ 5000 := by omega
  clear h5
  go_upto_region 5 with (fail)
  rw [HK.out.2.1, HK.out.1, HK.out.2.2.1, EK.out]
  clear HK EK
  have hki : (k : Int) < (L.length : Int) := by omega
  generalize UInt8.ofNat (k + 1) = ki at E1 EB EP ⊢
  generalize newT L ad au = T at hT4 E1 EB ES ⊢
  have hu16 := Try.underlying29
  have hbc0 : (bcells d0).length = 16 := by rw [bcells_length, hd0]
  have hbc1 : (bcells d1).length = 16 := by rw [bcells_length, hd1]
  have hi16 : (Try.prog.info? 29).map (·.size) = some (bcells d0).length := by rw [hbc0]; exact info_draw
  have hj16 : (Try.prog.info? 29).map (·.size) = some (bcells d1).length := by rw [hbc1]; exact info_draw
  have hpd := EP.out
  have hmo4 : Hid (MapsOnly (fun k => k = b2) w4.drew) := Lib.hid ((hT4.below (Below.refl _ _).drew).only.1)
  go_region_held3 (fun w' => w'.rangeAt bd 0 (bcells d0) ∧ w'.cell? ⟨bz, 1, none⟩ = some (.slice (some ⟨sb, so, none⟩) L.length sc) ∧ w'.cell? ⟨sb, so + k, none⟩ = some (.slice a1 l.length cc1)) (first
      | with_reducible exact ST5.out.log0 HCS.out HCV.out HDL.out
      | with_reducible exact (ST4.out.below (Below.refl _ _).drew).log0 HCS.out HCV.out HDL.out) (first
    | (go_at_call 9; (refine (login_l bt b1 b2 b3 T ki a1 cc1 l d0 _ (hT4.below (Below.refl _ _).drew) (ST4.out.l.below (Below.refl _ _).drew) E1.out hd0).mono ?_); rintro e w5 ⟨rfl, ht5, hT5⟩; have ST5 := Lib.hid ((ST4.out.below (Below.refl _ _).drew).keep ht5 hmo4.out); have HB5 := Lib.hid ((HB4.out.drew).trans (ht5.below HB4.out.drew.size (fun k hk e => by have := HG.out; omega))))
    | fail)
  have EB5 : Hid ((T.log ki l d0).bidder ki = true) := Lib.hid (by rw [Tbl.log_bidder]; exact EB.out)
  have E5 : Hid ((T.log ki l d0).secrets ki = some l) := Lib.hid (by rw [Tbl.log_secrets]; exact E1.out)
  have ES5 : Hid ((T.log ki l d0).short) := Lib.hid (T.log_short ki l d0 ES.out)
  have EW5 : Hid (∀ n, l ≠ [] → (T.log ki l d0).who ki n = if logN l d0 = n then 0 else 9) := Lib.hid (fun n h => by unfold logN; rw [if_neg h]; exact T.log_who ki l d0 n h)
  generalize T.log ki l d0 = T5 at hT5 EB5 E5 ES5 EW5
  clear c1 c5 c6 c7 c8 hT4 ST4 HB4 hmo4 ht5 EB E1 ES
  obtain ⟨c1, c5, c6, c7, c8⟩ := seqs_cells ST5.out.z HCS.out HCV.out
  go_wp2_with fail
  refine (keep_yes bt b1 b2 b3 T5 ki s pa p.length pc p w5 hT5 ST5.out.p EB5.out).mono ?_; rintro e w6 ⟨rfl, ht6, hT6⟩
  have hT6' : IsTbl w6 bt b1 b2 b3 (T5.put ki s p) := hT6
  have ST6 := Lib.hid (ST5.out.keep ht6 hT5.only.2)
  have HB6 := Lib.hid (HB5.out.trans (ht6.below HB5.out.size (fun k hk e => by have := HG.out; omega)))
  have EB6 : Hid ((T5.put ki s p).bidder ki = true) := Lib.hid (by rw [Tbl.put_bidder]; exact EB5.out)
  have E6 : Hid ((T5.put ki s p).secrets ki = some l) := Lib.hid E5.out
  have ES6 : Hid ((T5.put ki s p).short) := Lib.hid (T5.put_short ki s p ES5.out (by omega))
  have EW6 : Hid (∀ n, l ≠ [] → (T5.put ki s p).who ki n = if logN l d0 = n then 0 else 9) := Lib.hid EW5.out
  have EQ6 : Hid ((T5.put ki s p).seqE ki s s = if s = 0 then 10 else 11) := Lib.hid (Tbl.seqE_same _ ki s EB6.out)
  have EP6 : Hid ((T5.put ki s p).seqR ki s s = if s = 0 then [] else p) := Lib.hid (seqR_same T5 ki s p EB5.out)
  generalize T5.put ki s p = T6 at hT6' EB6 E6 ES6 EW6 EQ6 EP6
  clear c1 c5 c6 c7 c8 hT5 hT6 ST5 HB5 ht6 EB5 E5 ES5 EW5
  go_wp2_with fail
  refine (tcopy_any bt b1 b2 b3 T6 w6 hT6').mono ?_; rintro e w7 ⟨ct, k1, k2, k3, rfl, hb7, hO7, g0, g1, g2, g3⟩
  have hl6 := hT6'.lts
  have N : Hid (b1 ≠ k2 ∧ b2 ≠ k2 ∧ b3 ≠ k2 ∧ b1 ≠ k3 ∧ b2 ≠ k3 ∧ b3 ≠ k3) := Lib.hid ⟨by omega, by omega, by omega, by omega, by omega, by omega⟩
  have HG7 : Hid (w.heap.size ≤ k2 ∧ w.heap.size ≤ k3) := Lib.hid ⟨Nat.le_trans HB6.out.size g2, Nat.le_trans HB6.out.size g3⟩
  have hT7 := hT6'.below hb7
  have ST7 := Lib.hid (ST6.out.below hb7)
  have HB7 := Lib.hid (HB6.out.trans (hb7.mono HB6.out.size))
  clear hl6 g0 g1 g2 g3 hb7 hT6' ST6 HB6
  obtain ⟨fe, hfe, hcase⟩ : ∃ fe : Int, logE l = fe ∧ ((fe = 9 ∧ l = []) ∨ (fe = 0 ∧ l ≠ [])) := by
    by_cases h : l = []
    · exact ⟨9, by unfold logE; rw [if_pos h], .inl ⟨rfl, h⟩⟩
    · exact ⟨0, by unfold logE; rw [if_neg h], .inr ⟨rfl, h⟩⟩
  have HFE := Lib.hid hfe
  rw [hfe]
  clear hfe
  rcases hcase with ⟨rfl, hl0⟩ | ⟨rfl, hl0⟩
  all_goals
    have HL0 := Lib.hid hl0
    clear hl0
    go_wp2_with fail
    first
      | (refine (who_any ct k1 k2 k3 T6 ki (logN l d0) w7 hO7).mono ?_; rintro e w8 ⟨rfl, rfl⟩
         rw [EW6.out _ HL0.out, if_pos rfl]
         go_wp2_with fail)
      | skip
    have hmo7 : Hid (MapsOnly (fun k => k = k2) w7.drew) := Lib.hid ((hO7.below (Below.refl _ _).drew).only.1)
    go_region_held3 (fun w' => w'.rangeAt bd 16 (bcells d1) ∧ w'.cell? ⟨bz, 1, none⟩ = some (.slice (some ⟨sb, so, none⟩) L.length sc) ∧ w'.cell? ⟨sb, so + k, none⟩ = some (.slice a1 l.length cc1)) (first
        | with_reducible exact ST9.out.log1 HCS.out HCV.out HDL.out hd0 hd1
        | with_reducible exact (ST7.out.below (Below.refl _ _).drew).log1 HCS.out HCV.out HDL.out hd0 hd1) (first
      | (go_at_call 9; (refine (login_l ct k1 k2 k3 T6 ki a1 cc1 l d1 _ (hO7.below (Below.refl _ _).drew) (ST7.out.l.below (Below.refl _ _).drew) E6.out hd1).mono ?_); rintro e w9 ⟨rfl, ht9, hO9⟩; rw [HFE.out]; have ST9 := Lib.hid ((ST7.out.below (Below.refl _ _).drew).keep ht9 hmo7.out); have HB9 := Lib.hid ((HB7.out.drew).trans (ht9.below HB7.out.drew.size (fun k hk e => by have := HG7.out; omega))); have hT9 := (hT7.below (Below.refl _ _).drew).keep ht9 hmo7.out N.out.1 N.out.2.1 N.out.2.2.1)
      | fail)
    have EB9 : Hid ((T6.log ki l d1).bidder ki = true) := Lib.hid (by rw [Tbl.log_bidder]; exact EB6.out)
    have ES9 : Hid ((T6.log ki l d1).short) := Lib.hid (T6.log_short ki l d1 ES6.out)
    generalize T6.log ki l d1 = T9 at hO9 EB9 ES9
    clear ST7 HB7 hT7 hO7 hmo7 ht9
    go_wp2_with fail
    have HX : Hid (bcells p ++ [.int .u8 1] = bcells (p ++ [1])) := Lib.hid (by rw [bcells_append]; rfl)
    go_region_held3 (fun w' => w'.cell? ⟨bz, 6, none⟩ = some (.int .u32 s.toNat) ∧ w'.cell? ⟨bz, 8, none⟩ = some (.slice pa p.length pc)) (first
        | with_reducible exact STb.out.rep HCS.out HCV.out
        | with_reducible exact (ST9.out.below hB8).rep HCS.out HCV.out
        | with_reducible exact (ST9.out.below (((Below.refl _ _).alloc (Nat.le_refl _) _).drew)).rep HCS.out HCV.out
        | with_reducible exact (ST9.out.below (hB7.alloc hB7.size _)).rep HCS.out HCV.out
        | with_reducible exact (ST9.out.below hB7).rep HCS.out HCV.out
        | with_reducible exact (ST9.out.below (Below.refl _ _).drew).rep HCS.out HCV.out) (first
      | (go_at_call 10; refine (twin_any pa p.length pc p w9.drew (by omega) (ST9.out.p.below (Below.refl _ _).drew)).mono ?_; rintro e y7 ⟨rfl, hb7, ho7⟩; have hB7 : Below w9.heap.size w9 y7 := (Below.refl _ w9).drew.trans hb7; have hw7 := hB7.size)
      | (go_at_call 10; refine (twin_any pa p.length pc p _ (by omega) (ST9.out.p.below ((Below.refl _ _).alloc (Nat.le_refl _) _).drew)).mono ?_; rintro e v7 ⟨rfl, hb7, ho7⟩; have hB7 : Below w9.heap.size w9 v7 := ((Below.refl _ w9).alloc (Nat.le_refl _) _).drew.trans (hb7.mono (by simp)); have hw7 := hB7.size; have hq7 : v7.cell? ⟨w9.heap.size, 0, none⟩ = some (.int .u8 1) := (hb7.cell (p := ⟨w9.heap.size, 0, none⟩) (by simp)).trans (by simp))
      | (go_at_call 12; ((with_reducible refine (keep_yes ct k1 k2 k3 T9 ki s b8 _ c8 (p ++ [1]) w8 (hO9.below hB8) hi8 EB9.out).mono ?_); rintro e wb ⟨rfl, htb, hOb⟩; have hm8 := (hO9.below hB8).only.2; have STb := Lib.hid ((ST9.out.below hB8).keep htb hm8); have hTb := (hT9.below hB8).keep htb hm8 N.out.2.2.2.1 N.out.2.2.2.2.1 N.out.2.2.2.2.2; have HBb := Lib.hid ((HB9.out.trans (hB8.mono HB9.out.size)).trans (htb.below (Nat.le_trans HB9.out.size hB8.size) (fun k hk e => by have := HG7.out; omega)))))
      | (refine step_append_any rowU8 rfl (.tmp 104) (.tmp 105) (by rfl) (w9.alloc (.cells #[.int .u8 1] 5)).drew.heap.size _ p.length (bcells p) (by simp [Act.eval]) (owns_shrink ho7 (bcells_length p)) (some ⟨w9.heap.size, 0, none⟩) 1 1 [.int .u8 1] (by simp [Act.eval]) rfl (at_cell hq7) (one_cell _ rfl) (by unfold maxLen; omega) (by omega) (by exact hb7.size) ?_; intro b8 c8 w8 hown8 hg8 hat8; have hB8 : Below w9.heap.size w9 w8 := hB7.grown hg8 hw7 (fun j hj => by have hj' : some (w9.alloc (.cells #[.int .u8 1] 5)).drew.heap.size = some j := hj; cases hj'; simp); rw [HX.out] at hown8; have hi8 := isB_of_owns hown8 (by simp))
      | (refine step_append_any rowU8 rfl (.tmp 104) (.tmp 105) (by rfl) w9.heap.size _ p.length (bcells p) (by simp [Act.eval]) ((owns_shrink ho7 (bcells_length p)).alloc _) (some ⟨y7.heap.size, 0, none⟩) 1 1 [.int .u8 1] (by simp [Act.eval]) rfl (At.one _ _ _) (one_cell _ rfl) (by unfold maxLen; omega) (by omega) (by simp; omega) ?_; intro b8 c8 w8 hown8 hg8 hat8; have hB8 : Below w9.heap.size w9 w8 := (hB7.alloc hB7.size _).grown hg8 (by simp; omega) (fun j hj => by have hj' : some w9.heap.size = some j := hj; cases hj'; exact Nat.le_refl _); rw [HX.out] at hown8; have hi8 := isB_of_owns hown8 (by simp))
      | fail)
    all_goals
      have hOb' : IsTbl wb ct k1 k2 k3 (T9.put ki s (p ++ [1])) := hOb
      have EBb : Hid ((T9.put ki s (p ++ [1])).bidder ki = true) := Lib.hid (by rw [Tbl.put_bidder]; exact EB9.out)
      have ESb : Hid ((T9.put ki s (p ++ [1])).short) := Lib.hid (T9.put_short ki s _ ES9.out (by simp; omega))
      have EQb : Hid ((T9.put ki s (p ++ [1])).seqE ki s s = if s = 0 then 10 else 11) := Lib.hid (Tbl.seqE_same _ ki s EBb.out)
      have EPb : Hid ((T9.put ki s (p ++ [1])).seqR ki s s = if s = 0 then [] else p ++ [1]) := Lib.hid (seqR_same T9 ki s _ EB9.out)
      generalize T9.put ki s (p ++ [1]) = Tb at hOb' EBb ESb EQb EPb
      clear hm8 htb hOb hB8 hi8 hown8 hg8 hat8 hB7 hw7 hb7 ho7 hT9 hO9 ST9 HB9 EB9 ES9 HX
      go_wp2_with fail
      first
        | (refine (who_any bt b1 b2 b3 T6 ki (logN l d0) wb hTb).mono ?_; rintro e w8 ⟨rfl, rfl⟩
           rw [EW6.out _ HL0.out, if_pos rfl]
           go_wp2_with fail
           refine (who_any bt b1 b2 b3 T6 ki (logN l d1) wb hTb).mono ?_; rintro e w8 ⟨rfl, rfl⟩
           rw [EW6.out _ HL0.out]
           obtain ⟨v, hv⟩ : ∃ v : Int, v = if logN l d0 = logN l d1 then 0 else 9 := ⟨_, rfl⟩
           rw [← hv]
           have hx : (v == 0) = (((logN l d0).toNat : Int) == ((logN l d1).toNat : Int)) := by
             rw [hv, Bool.eq_iff_iff, beq_iff_eq, beq_iff_eq]
             by_cases h : logN l d0 = logN l d1
             · rw [if_pos h, h]; simp
             · rw [if_neg h]
               constructor
               · intro h'; cases h'
               · intro h'; exact absurd (UInt64.toNat_inj.1 (by omega)) h
           clear hv
           have hz : ((((logN l d0).toNat : Int) == ((logN l d1).toNat : Int)) != (((logN l d0).toNat : Int) == ((logN l d1).toNat : Int))) = false := by simp
           go_wp2_with fail)
        | skip
      obtain ⟨c6, c8'⟩ := STb.out.rep HCS.out HCV.out
      by_cases hs0 : s = 0
      · have q6 := EQ6.out
        have q7 := EP6.out
        have q8 := EQb.out
        have q9 := EPb.out
        rw [if_pos hs0] at q6 q7 q8 q9
        have hsz : ((s.toNat : Int) != 0) = false := by rw [hs0]; rfl
        have Q6 := Lib.hid q6
        have Q7 := Lib.hid q7
        have Q8 := Lib.hid q8
        have Q9 := Lib.hid q9
        clear hs0 q6 q7 q8 q9
        go_wp2_with fail
        refine (seq_any bt b1 b2 b3 T6 ki s s wb hTb ES6.out).mono ?_; rintro e wc ⟨a5, cc5, rfl, hbc, hBc⟩
        rw [Q6.out, Q7.out]
        have STc := Lib.hid (STb.out.below hbc)
        have hOc := hOb'.below hbc
        have HBc := Lib.hid (HBb.out.trans (hbc.mono HBb.out.size))
        clear c6 c8' hbc hOb' hTb STb HBb hBc
        obtain ⟨c6, c8'⟩ := STc.out.rep HCS.out HCV.out
        go_wp2_with fail
        refine (seq_any ct k1 k2 k3 Tb ki s s wc hOc ESb.out).mono ?_; rintro e wd ⟨a6, cc6, rfl, hbd, hBd⟩
        rw [Q8.out, Q9.out]
        have STd := Lib.hid (STc.out.below hbd)
        have HBd := Lib.hid (HBc.out.trans (hbd.mono HBc.out.size))
        clear c6 c8' hbd hOc STc HBc hBd
        obtain ⟨c6, c8'⟩ := STd.out.rep HCS.out HCV.out
        go_wp2_with fail
        refine (lives_any wd).mono ?_; rintro e we ⟨rfl, hbe⟩
        go_wp2_with fail
        go_ret
        exact ⟨rfl, HBd.out.trans (hbe.mono HBd.out.size)⟩
      · have q6 := EQ6.out
        have q7 := EP6.out
        have q8 := EQb.out
        have q9 := EPb.out
        rw [if_neg hs0] at q6 q7 q8 q9
        have hsz : ((s.toNat : Int) != 0) = true := by rw [bne_iff_ne]; exact fun h => hs0 (u32_zero h)
        have Q6 := Lib.hid q6
        have Q7 := Lib.hid q7
        have Q8 := Lib.hid q8
        have Q9 := Lib.hid q9
        clear hs0 q6 q7 q8 q9
        go_wp2_with fail
        refine (seq_any bt b1 b2 b3 T6 ki s s wb hTb ES6.out).mono ?_; rintro e wc ⟨a5, cc5, rfl, hbc, hBc⟩
        rw [Q6.out]
        rw [Q7.out] at hBc ⊢
        have STc := Lib.hid (STb.out.below hbc)
        have hOc := hOb'.below hbc
        have HBc := Lib.hid (HBb.out.trans (hbc.mono HBb.out.size))
        clear c6 c8' hbc hOb' hTb STb HBb
        obtain ⟨c6, c8'⟩ := STc.out.rep HCS.out HCV.out
        go_wp2_with fail
        refine (seq_any ct k1 k2 k3 Tb ki s s wc hOc ESb.out).mono ?_; rintro e wd ⟨a6, cc6, rfl, hbd, hBd⟩
        rw [Q8.out, Q9.out, List.length_append]
        have hBc' := hBc.below hbd
        have STd := Lib.hid (STc.out.below hbd)
        have HBd := Lib.hid (HBc.out.trans (hbd.mono HBc.out.size))
        clear c6 c8' hbd hOc STc HBc hBd hBc
        obtain ⟨c6, c8'⟩ := STd.out.rep HCS.out HCV.out
        have hln : (((p.length + [(1 : UInt8)].length : Nat) : Int) == (p.length : Int) + 1) = true := by simp
        go_wp2_with fail
        refine (sameB_any a5 pa _ _ cc5 pc p p wd hBc' STd.out.p).mono ?_
        rintro e we ⟨rfl, j, rfl⟩
        rw [decide_eq_true (rfl : p = p)]
        have HBe := Lib.hid (HBd.out.trans ((below_drewN (Below.refl wd.heap.size wd) j).mono HBd.out.size))
        clear c6 c8' STd HBd hBc'
        generalize wd.drewN j = we at HBe ⊢
        go_wp2_with fail
        refine (lives_any we).mono ?_; rintro e wf ⟨rfl, hbf⟩
        go_wp2_with fail
        go_ret
        exact ⟨rfl, HBe.out.trans (hbf.mono HBe.out.size)⟩

end Go.Proofs.Ythadgnaaipdpaaa
