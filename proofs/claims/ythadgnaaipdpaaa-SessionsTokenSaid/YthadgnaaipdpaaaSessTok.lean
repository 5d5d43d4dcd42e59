/- The statement SessionsToken; conditions: those typed. -/
import Derived.Test.YthadgnaaipdpaaaSessTokA
import Derived.Deep.Cut
import Derived.Outline
import Derived.StillTailTactics
namespace Go.Proofs.Ythadgnaaipdpaaa
open Go.RowKit
set_option linter.unusedVariables false

set_option maxRecDepth 100000 in
set_option maxHeartbeats 4000000 in
theorem stoken_test (ra : Option Addr) (rn rc : Nat) (uv : UInt64) (sa : Option Addr) (sn sc : Nat) (aa : Option Addr) (an ac : Nat) (ua : Option Addr) (un uc : Nat) (who other : UInt8) (d0 d1 : List UInt8) (cs cv dL : List Value) (w : World)
    (hcv : cv = cfgL ra rn rc sa sn sc aa an ac ua un uc uv) (hcs : cs = cv ++ [.int .u8 who.toNat, .int .u8 other.toNat] ++ dL) (hd0 : d0.length = 16) (hd1 : d1.length = 16) (hdL : dL = bcells d0 ++ bcells d1) (hd : dL.length = 32) (h1 : ∀ v ∈ dL, v.oneCell' = true)
    (L : List (List UInt8)) (ad au : List UInt8) (hL : IsBB w 0 sa sn sc L) (ha : IsB w aa an ac ad) (hu : IsB w ua un uc au) (hLm : ∀ l ∈ L, l.length ≤ 140737488351232) (ham : ad.length ≤ 140737488351232) (hum : au.length ≤ 140737488351232) :
    Calls Try.prog 3 #[.agg cs.toArray] w fun e w' => e = .returned (.bool true) ∧ Below w.heap.size w w' := by
  have hb0 := heap_new w (.cells cs.toArray 32 (0, 0))
  have hB0 : Below w.heap.size w (w.alloc (.cells cs.toArray 32)) := (Below.refl _ _).alloc (Nat.le_refl _) _
  obtain ⟨w0, hw0⟩ : ∃ w0, w0 = w.alloc (.cells cs.toArray 32) := ⟨_, rfl⟩
  rw [← hw0] at hb0 hB0
  have hcvl : cv.length = 5 := by rw [hcv]; rfl
  have f5 : w0.cell? ⟨w.heap.size, 5, none⟩ = some (.int .u8 who.toNat) := by rw [cell_of_block hb0, hcs, hcv]; simp [cfgL]
  have f6 : w0.cell? ⟨w.heap.size, 6, none⟩ = some (.int .u8 other.toNat) := by rw [cell_of_block hb0, hcs, hcv]; simp [cfgL]
  have r0 : w0.rangeAt w.heap.size 0 cv := rangeAt_mid hb0 (by rw [hcs]; simp)
  have r7 : w0.rangeAt w.heap.size 7 dL := rangeAt_mid hb0 (by rw [hcs, hcv, hd]; simp [cfgL]; exact List.take_of_length_le (by omega))
  have hs0 : w.heap.size < w0.heap.size := lt_of_heap hb0
  have W0 := Lib.hid hw0
  have HCS := Lib.hid hcs
  have HCV := Lib.hid hcv
  have HD := Lib.hid hd
  have H1 := Lib.hid h1
  have R0 := Lib.hid r0
  have R7 := Lib.hid r7
  have HCL := Lib.hid hcvl
  have HDL := Lib.hid hdL
  clear hdL
  have HONE : Hid (∀ v ∈ cv.toArray.toList, v.oneCell' = true) := Lib.hid (by rw [hcv]; intro v hv; simp [cfgL] at hv; rcases hv with rfl | rfl | rfl | rfl | rfl <;> rfl)
  clear hw0 hcs hcv hd h1 r0 r7 hcvl
  have R7' : Hid ((w0.alloc (.cells cv.toArray 27)).rangeAt w.heap.size 7 dL) := Lib.hid (fun j v hv => cell_alloc (R7.out j v hv) _)
  have HONE2 : Hid (∀ v ∈ dL.toArray.toList, v.oneCell' = true) := Lib.hid (by simpa using H1.out)
  have TS0 : Hid (TokSt ((w0.alloc (.cells cv.toArray 27)).alloc (.cells dL.toArray 30)) w0.heap.size (w0.heap.size + 1) cv dL) := Lib.hid ⟨below_heap (B := w0.heap.size + 1) ((Below.refl _ _).alloc (by simp) _) (heap_new w0 _) (by omega), by
    have := heap_new (w0.alloc (.cells cv.toArray 27)) (.cells dL.toArray 30 (0, 0))
    rwa [show (w0.alloc (.cells cv.toArray 27)).heap.size = w0.heap.size + 1 by simp] at this⟩
  have hB3 : Below w.heap.size w ((w0.alloc (.cells cv.toArray 27)).alloc (.cells dL.toArray 30)) := (hB0.alloc hB0.size _).alloc (by simp; exact Nat.le_succ_of_le hB0.size) _
  have HB3 := Lib.hid hB3
  clear hB3
  go_enter Try.func3, Try.ntmps3
  go_wp2_with (first
    | (refine wpList_load_mid rfl 27 (.tmp 19) rfl w.heap.size 0 rfl cv _ ?_ Try.underlying27 rfl (by rw [HCL.out]; exact info_cfg) ?_; · rw [← W0.out]; exact R0.out
       rw [← W0.out])
    | (refine wpList_declare rfl rfl 27 rfl (.tmp 3) (.tmp 20) rfl _ zero_cfg cv.toArray (by simp [HCL.out, Value.cells]) (by rw [info_cfg]; simp [HCL.out]) rfl rfl HONE.out ?_)
    | (refine wpList_load_mid rfl 30 (.tmp 25) rfl w.heap.size 7 rfl dL _ R7'.out Try.underlying30 rfl (by rw [HD.out]; exact info_draws) ?_)
    | (refine wpList_load_mid rfl 27 (.tmp 3) rfl w0.heap.size 0 rfl cv _ (rangeAt_row TS0.out.c) Try.underlying27 rfl (by rw [HCL.out]; exact info_cfg) ?_)
    | (refine wpList_declare rfl rfl 30 rfl (.tmp 6) (.tmp 26) rfl _ zero_draws dL.toArray (by simp [HD.out, Value.cells]) (by rw [info_draws]; simp [HD.out]) rfl rfl HONE2.out ?_)
    | fail)
  have st := TS0.out
  have hB3 := HB3.out
  clear TS0 HB3 R7' R7 R0 HONE HONE2 hb0
  generalize (w0.alloc (.cells cv.toArray 27)).alloc (.cells dL.toArray 30) = w3 at st hB3 ⊢
  generalize w0.heap.size + 1 = bd at st ⊢
  generalize w0.heap.size = bc at st hs0 ⊢
  clear f5 f6 hB0 W0
  by_cases hn : L.length < 1 ∨ 8 < L.length
  · refine (snewL_bad HCV.out (by rw [hL.1]; exact hn)).mono ?_; rintro e w4 ⟨rfl, hb4⟩
    clear hL ha hu hn
    go_wp2_with fail
    refine (lives_any w4).mono ?_; rintro e w5 ⟨rfl, hb5⟩
    go_wp2_with fail
    go_ret
    exact ⟨rfl, (hB3.trans (hb4.mono hB3.size)).trans (hb5.mono (Nat.le_trans hB3.size hb4.size))⟩
  have hn1 : 1 ≤ L.length := by omega
  have hn8 : L.length ≤ 8 := by omega
  obtain ⟨k, hkl, hke, HK⟩ := pick_index who L.length hn1 hn8
  clear hke
  obtain ⟨j, hjl, hje, HJ⟩ := pick_index other L.length hn1 hn8
  clear hje
  have hne : ((L.length : Int) == 0) = false := by rw [beq_eq_false_iff_ne]; omega
  have hkI : (k : Int) < (L.length : Int) := by omega
  clear hn
  obtain rfl := hL.1
  refine (snewL_good HCV.out (hL.below hB3) (ha.below hB3) (hu.below hB3) hn1 hn8 hLm ham hum).mono ?_; rintro e w4 ⟨bt, b1, b2, b3, rfl, hb4, hT4, g1, g2, g3, g4⟩
  have st4 := st.below hb4
  have hB4 := hB3.trans (hb4.mono hB3.size)
  obtain ⟨_, hLc, hLc2, hL4⟩ := hL
  obtain ⟨sb, so, rfl, _, hsb, hcell⟩ : ∃ b off, sa = some ⟨b, off, none⟩ ∧ 0 ≤ b ∧ b < w.heap.size ∧ ∀ i (h : i < L.length), ∃ u, w.cell? ⟨b, off + i, none⟩ = some u ∧ ReadAs w 0 u L[i] := by
    rcases hL4 with rfl | h
    · simp at hn1
    · exact h
  obtain ⟨u, hu1, a1, m1, cc1, rfl, hr1, _⟩ := hcell k hkl
  obtain rfl := hr1.1
  have c2 := (hB4.cell (p := ⟨sb, so + k, none⟩) hsb).trans hu1
  have hr4 := hr1.below hB4
  have hlm := hLm _ (List.getElem_mem hkl)
  have c1 : w4.cell? ⟨bc, 1, none⟩ = some (.slice (some ⟨sb, so, none⟩) L.length sc) := by rw [cell_of_block st4.c, HCV.out]; rfl
  have e1 : (newT L ad au).secrets (UInt8.ofNat (k + 1)) = some L[k] := newT_at L ad au k hkl hn8
  have e2 : (newT L ad au).secrets (UInt8.ofNat (L.length + 1)) = none := newT_past L ad au hn8
  generalize L[k] = l at hr1 hr4 hlm c2 e1 ⊢
  have E1 := Lib.hid e1
  have E2 := Lib.hid e2
  have ST4 := Lib.hid st4
  have HG2 : Hid (w.heap.size ≤ b2) := Lib.hid (Nat.le_trans hB3.size g3)
  clear hcell hL4 hu1 hr1 e1 e2 st st4 hb4 hB3 hLm ha hu g1 g2 g3 g4
  go_upto_region 10 with (fail)
  rw [HK.out.2.1, HK.out.1, HK.out.2.2.1, HJ.out.2.1, HJ.out.1, HJ.out.2.2.1]
  go_upto_region 11 with (fail)
  have ek : 1 + (k : Int) = ((UInt8.ofNat (k + 1)).toNat : Int) := by simp; omega
  have ej : 1 + (j : Int) = ((UInt8.ofNat (j + 1)).toNat : Int) := by simp; omega
  have en : ((UInt8.ofNat (L.length + 1)).toNat : Int) = (L.length : Int) + 1 := by simp; omega
  have ekj : Hid (UInt8.ofNat (j + 1) ≠ UInt8.ofNat (k + 1) ↔ j ≠ k) := Lib.hid ⟨fun h e => h (by rw [e]), fun h e => h (by
    have := congrArg UInt8.toNat e
    simp at this
    omega)⟩
  rw [ek, ej]
  have EN := Lib.hid en
  clear ek ej en hkI HK HJ
  generalize UInt8.ofNat (k + 1) = ki at E1 ekj ⊢
  generalize UInt8.ofNat (j + 1) = kj at ekj ⊢
  generalize UInt8.ofNat (L.length + 1) = kn at E2 EN
  have bi := u8_lt ki
  have bj := u8_lt kj
  by_cases hl0 : l = []
  · subst hl0
    go_wp2_with fail
    refine (lives_any w4).mono ?_; rintro e w5 ⟨rfl, hb5⟩
    go_wp2_with fail
    go_ret
    exact ⟨rfl, hB4.trans (hb5.mono hB4.size)⟩
  have hl1 : ((l.length : Int) == 0) = false := by rw [beq_eq_false_iff_ne]; have := List.length_pos_iff.2 hl0; omega
  have HL0 := Lib.hid hl0
  clear hl0
  go_wp2_with fail
  refine (who_any bt b1 b2 b3 (newT L ad au) ki 0 w4 hT4).mono ?_; rintro e w5 ⟨rfl, rfl⟩
  rw [who_new]
  have hdr : w4.rangeAt bd 0 (bcells d0) := rangeAt_mid ST4.out.d (by rw [HDL.out]; simp)
  have hsz : Hid (w4.heap.size > bd ∧ w.heap.size ≤ w4.heap.size) := Lib.hid ⟨lt_of_heap ST4.out.d, hB4.size⟩
  have hbc0 : (bcells d0).length = 16 := by rw [bcells_length, hd0]
  have HR := Lib.hid hdr
  have HB4 := Lib.hid hB4
  have HC0 := Lib.hid hbc0
  clear hdr hB4 hbc0
  go_wp2_with (first
    | (refine wpList_load_mid rfl 29 (.tmp 76) rfl bd 0 rfl (bcells d0) _ HR.out Try.underlying29 rfl (by rw [HC0.out]; exact info_draw) ?_)
    | fail)
  refine (login_yes bt b1 b2 b3 (newT L ad au) ki a1 l.length cc1 l d0 w4 hT4 hr4 ⟨E1.out, HL0.out⟩ hd0).mono ?_; rintro e w5 ⟨rfl, ht5, hT5⟩
  have e5 := who_self (newT L ad au) ki (tok d0) (tok d0)
  rw [if_pos rfl] at e5
  have hmo4 : MapsOnly (fun k => k = b2) w4 := fun k hk => hT4.maps k (.inr (.inl hk))
  have ST5 := Lib.hid (ST4.out.keep ht5 hmo4)
  have hr5 := hr4.keep ht5 hmo4
  have hB5 : Below w.heap.size w w5 := HB4.out.trans (ht5.below hsz.out.2 (fun k hk e => by have := HG2.out; omega))
  have hn0 : (((tok d0).toNat : Int) == 0) = false := by rw [beq_eq_false_iff_ne]; intro h; exact tok_pos d0 (UInt64.toNat_inj.1 (by simpa using h))
  clear hT4 hr4 ht5 hmo4
  go_wp2_with fail
  refine (who_any bt b1 b2 b3 _ ki (tok d0) w5 hT5).mono ?_; rintro e w6 ⟨rfl, rfl⟩
  rw [e5]
  have hs5 : { newT L ad au with tokens := fun j => if j = ki then some (tok d0) else (newT L ad au).tokens j }.secrets ki = some l := E1.out
  have hq5 : { newT L ad au with tokens := fun j => if j = ki then some (tok d0) else (newT L ad au).tokens j }.secrets kn = none := E2.out
  have ho5 : ∀ n, ki ≠ kj → Tbl.who { newT L ad au with tokens := fun j => if j = ki then some (tok d0) else (newT L ad au).tokens j } kj n = 9 := fun n h => by rw [who_other _ _ _ _ _ (Ne.symm h), who_new]
  generalize ({ newT L ad au with tokens := fun j => if j = ki then some (tok d0) else (newT L ad au).tokens j } : Tbl) = T5 at hT5 hs5 hq5 ho5
  have hdr5 : w5.rangeAt bd 16 (bcells d1) := rangeAt_mid ST5.out.d (by rw [HDL.out]; simp [bcells_length, hd0]; exact List.take_of_length_le (by rw [bcells_length]; omega))
  have hbc1 : (bcells d1).length = 16 := by rw [bcells_length, hd1]
  have HR5 := Lib.hid hdr5
  have HC1 := Lib.hid hbc1
  have HS5 := Lib.hid hs5
  have HQ5 := Lib.hid hq5
  have HO5 := Lib.hid ho5
  have HB5 := Lib.hid hB5
  clear e5 hdr5 hbc1 hs5 hq5 ho5 hB5
  go_wp2_with (first
    | (refine wpList_load_mid rfl 29 (.tmp 100) rfl bd 16 rfl (bcells d1) _ HR5.out Try.underlying29 rfl (by rw [HC1.out]; exact info_draw) ?_)
    | fail)
  refine (login_yes bt b1 b2 b3 T5 ki a1 l.length cc1 l d1 w5 hT5 hr5 ⟨HS5.out, HL0.out⟩ hd1).mono ?_; rintro e w6 ⟨rfl, ht6, hT6⟩
  have hmo5 : MapsOnly (fun k => k = b2) w5 := fun k hk => hT5.maps k (.inr (.inl hk))
  have ST6 := Lib.hid (ST5.out.keep ht6 hmo5)
  have hr6 := hr5.keep ht6 hmo5
  have hB6 : Below w.heap.size w w6 := HB5.out.trans (ht6.below HB5.out.size (fun k hk e => by have := HG2.out; omega))
  have e6 := who_self T5 ki (tok d1) (tok d1)
  rw [if_pos rfl] at e6
  have f6 := who_self T5 ki (tok d1) (tok d0)
  have hs6 : { T5 with tokens := fun j => if j = ki then some (tok d1) else T5.tokens j }.secrets ki = some l := HS5.out
  have hq6 : { T5 with tokens := fun j => if j = ki then some (tok d1) else T5.tokens j }.secrets kn = none := HQ5.out
  have ho6 : ∀ n, ki ≠ kj → Tbl.who { T5 with tokens := fun j => if j = ki then some (tok d1) else T5.tokens j } kj n = 9 := fun n h => by rw [who_other _ _ _ _ _ (Ne.symm h), HO5.out n h]
  generalize ({ T5 with tokens := fun j => if j = ki then some (tok d1) else T5.tokens j } : Tbl) = T6 at hT6 e6 f6 hs6 hq6 ho6
  have E6 := Lib.hid e6
  have F6 := Lib.hid f6
  have HS6 := Lib.hid hs6
  have HQ6 := Lib.hid hq6
  have HO6 := Lib.hid ho6
  have HB6 := Lib.hid hB6
  clear hT5 hr5 ht6 hmo5 e6 f6 hs6 hq6 ho6 hB6 HS5 HQ5 HO5 ST5 HR5 HB5 HR HB4 ST4 hsz E1 E2
  go_wp2_with fail
  refine (who_any bt b1 b2 b3 T6 ki (tok d1) w6 hT6).mono ?_; rintro e w7 ⟨rfl, rfl⟩
  rw [E6.out]
  go_wp2_with fail
  refine (who_any bt b1 b2 b3 T6 ki (tok d0) w6 hT6).mono ?_; rintro e w7 ⟨rfl, rfl⟩
  rw [F6.out]
  obtain ⟨v, hv⟩ : ∃ v : Int, v = if tok d1 = tok d0 then 0 else 9 := ⟨_, rfl⟩
  rw [← hv]
  have hx : (v == 0) = (((tok d0).toNat : Int) == ((tok d1).toNat : Int)) := by
    rw [hv, Bool.eq_iff_iff, beq_iff_eq, beq_iff_eq]
    by_cases h : tok d1 = tok d0
    · rw [if_pos h, h]; simp
    · rw [if_neg h]
      constructor
      · intro h'; cases h'
      · intro h'; exact absurd (UInt64.toNat_inj.1 (by omega)) h
  clear hv
  have hz : ((((tok d0).toNat : Int) == ((tok d1).toNat : Int)) != (((tok d0).toNat : Int) == ((tok d1).toNat : Int))) = false := by simp
  go_wp2_with fail
  have hdr6 : w6.rangeAt bd 0 (bcells d0) := rangeAt_mid ST6.out.d (by rw [HDL.out]; simp)
  have hbd6 : bd < w6.heap.size := lt_of_heap ST6.out.d
  have hu16 := Try.underlying29
  have hi16 : (Try.prog.info? 29).map (·.size) = some (bcells d0).length := by rw [HC0.out]; exact info_draw
  have HX : Hid (bcells l ++ [.int .u8 0] = bcells (l ++ [0])) := Lib.hid (by rw [bcells_append]; rfl)
  have HN6 : Hid (¬ T6.knows ki (l ++ [0])) := Lib.hid (fun h => by
    have h1 := h.1
    rw [HS6.out] at h1
    have := congrArg List.length (Option.some.inj h1)
    simp at this)
  clear hx hz
  have HWK := Lib.hid (u8_wrap ki)
  go_region_held3 (fun w' => w'.rangeAt bd 0 (bcells d0)) (first
      | with_reducible exact rangeAt_below hdr6 hbd6 hB9
      | with_reducible exact rangeAt_below hdr6 hbd6 hB8
      | with_reducible exact rangeAt_below hdr6 hbd6 (((Below.refl _ _).alloc (Nat.le_refl _) _).drew)
      | with_reducible exact rangeAt_below hdr6 hbd6 (hB7.alloc hB7.size _)
      | with_reducible exact rangeAt_below hdr6 hbd6 hB7
      | with_reducible exact rangeAt_below hdr6 hbd6 (Below.refl _ _).drew
      | with_reducible exact rangeAt_below hdr6 hbd6 (((Below.refl _ _).alloc (Nat.le_refl _) _).drew)) (first
    | (go_at_call 10; refine (twin_any a1 l.length cc1 l w6.drew hlm (hr6.below (Below.refl _ _).drew)).mono ?_; rintro e w7 ⟨rfl, hb7, ho7⟩; have hB7 : Below w6.heap.size w6 w7 := (Below.refl _ w6).drew.trans hb7; have hw7 := hB7.size)
    | (go_at_call 10; refine (twin_any a1 l.length cc1 l _ hlm (hr6.below ((Below.refl _ _).alloc (Nat.le_refl _) _).drew)).mono ?_; rintro e v7 ⟨rfl, hb7, ho7⟩; have hB7 : Below w6.heap.size w6 v7 := ((Below.refl _ w6).alloc (Nat.le_refl _) _).drew.trans (hb7.mono (by simp)); have hw7 := hB7.size; have hq7 : v7.cell? ⟨w6.heap.size, 0, none⟩ = some (.int .u8 0) := (hb7.cell (p := ⟨w6.heap.size, 0, none⟩) (by simp)).trans (by simp))
    | (go_at_call 9; rw [HWK.out]; ((with_reducible refine (login_noD bt b1 b2 b3 T6 ki b8 _ c8 (l ++ [0]) d0 w8 (hT6.below hB8) hi8 HN6.out).mono ?_); rintro e w9 ⟨rfl, hb9⟩; have hB9 : Below w6.heap.size w6 w9 := hB8.trans (hb9.mono hB8.size)))
    | (refine step_append_any rowU8 rfl (.tmp 132) (.tmp 133) (by rfl) (w6.alloc (.cells #[.int .u8 0] 5)).drew.heap.size _ l.length (bcells l) (by simp [Act.eval]) (owns_shrink ho7 (bcells_length l)) (some ⟨w6.heap.size, 0, none⟩) 1 1 [.int .u8 0] (by simp [Act.eval]) rfl (at_cell hq7) (one_cell _ rfl) (by unfold maxLen; omega) (by omega) (by exact hb7.size) ?_; intro b8 c8 w8 hown8 hg8 hat8; have hB8 : Below w6.heap.size w6 w8 := hB7.grown hg8 hw7 (fun j hj => by have hj' : some (w6.alloc (.cells #[.int .u8 0] 5)).drew.heap.size = some j := hj; cases hj'; simp); rw [HX.out] at hown8; have hi8 := isB_of_owns hown8 (by simp))
    | (refine step_append_any rowU8 rfl (.tmp 132) (.tmp 133) (by rfl) w6.heap.size _ l.length (bcells l) (by simp [Act.eval]) ((owns_shrink ho7 (bcells_length l)).alloc _) (some ⟨w7.heap.size, 0, none⟩) 1 1 [.int .u8 0] (by simp [Act.eval]) rfl (At.one _ _ _) (one_cell _ rfl) (by unfold maxLen; omega) (by omega) (by simp; omega) ?_; intro b8 c8 w8 hown8 hg8 hat8; have hB8 : Below w6.heap.size w6 w8 := (hB7.alloc hB7.size _).grown hg8 (by simp; omega) (fun j hj => by have hj' : some w6.heap.size = some j := hj; cases hj'; exact Nat.le_refl _); rw [HX.out] at hown8; have hi8 := isB_of_owns hown8 (by simp))
    | fail)
  all_goals
    have hT9 := hT6.below hB9
    have st9 := ST6.out.below hB9
    have hB9' := HB6.out.trans (hB9.mono HB6.out.size)
    have hrd := hr6.below hB9
    have k1 : w9.cell? ⟨bc, 1, none⟩ = some (.slice (some ⟨sb, so, none⟩) L.length sc) := by rw [cell_of_block st9.c, HCV.out]; rfl
    have KD : Hid (w9.rangeAt bd 0 (bcells d0)) := Lib.hid (rangeAt_mid st9.d (by rw [HDL.out]; simp))
    have HNk : Hid (¬ T6.knows kn l) := Lib.hid (fun h => by have := h.1; rw [HQ6.out] at this; cases this)
    have HBD := Lib.hid hB9'
    clear st9 hB9' hb7 ho7 hB7 hw7 hown8 hg8 hat8 hB8 hi8 hb9 hB9 hdr6 hT6 hr6
    go_wp2_with (first
      | (refine wpList_load_mid rfl 29 (.tmp 148) rfl bd 0 rfl (bcells d0) _ KD.out Try.underlying29 rfl (by rw [HC0.out]; exact info_draw) ?_)
      | fail)
    rw [← EN.out]
    refine (login_noD bt b1 b2 b3 T6 kn a1 l.length cc1 l d0 w9 hT9 hrd HNk.out).mono ?_; rintro e w11 ⟨rfl, hb11⟩
    have hT11 := hT9.below hb11
    have HB11 := Lib.hid (HBD.out.trans (hb11.mono HBD.out.size))
    clear hT9 hrd k1 hb11
    by_cases hjk : j = k
    · obtain rfl : kj = ki := Classical.byContradiction fun h => (ekj.out.1 h) hjk
      clear hjk
      go_wp2_with fail
      refine (who_any bt b1 b2 b3 T6 kj (tok d1) w11 hT11).mono ?_; rintro e w12 ⟨rfl, rfl⟩
      rw [E6.out]
      go_wp2_with fail
      refine (lives_any w11).mono ?_; rintro e w12 ⟨rfl, hb12⟩
      go_wp2_with fail
      go_ret
      exact ⟨rfl, HB11.out.trans (hb12.mono HB11.out.size)⟩
    · have hkj := ekj.out.2 hjk
      have hkj' : ((ki.toNat : Int) == (kj.toNat : Int)) = false := by rw [beq_eq_false_iff_ne]; exact fun h => hkj (UInt8.toNat_inj.1 (by omega))
      have HO7 := Lib.hid (HO6.out (tok d1) (Ne.symm hkj))
      clear hjk hkj
      go_wp2_with fail
      refine (who_any bt b1 b2 b3 T6 kj (tok d1) w11 hT11).mono ?_; rintro e w12 ⟨rfl, rfl⟩
      rw [HO7.out]
      go_wp2_with fail
      refine (who_any bt b1 b2 b3 T6 ki (tok d1) w11 hT11).mono ?_; rintro e w12 ⟨rfl, rfl⟩
      rw [E6.out]
      go_wp2_with fail
      refine (lives_any w11).mono ?_; rintro e w12 ⟨rfl, hb12⟩
      go_wp2_with fail
      go_ret
      exact ⟨rfl, HB11.out.trans (hb12.mono HB11.out.size)⟩

end Go.Proofs.Ythadgnaaipdpaaa
