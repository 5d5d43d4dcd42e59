/- Layer 20: StoresOld; conditions: those typed. -/
import Derived.Test.YtggjhbpggddjmaaGreatStOldP
import Derived.Test.YtggjhbpggddjmaaGreatStTR
namespace Go.Proofs.YtggjhbpggddjmaaGreat
open Go.RowKit
set_option linter.unusedVariables false
set_option linter.unusedSimpArgs false

theorem rangeAt_in {w : World} {g : Nat} {A cs B : List Value} {t : TypeId} {fr : Nat × Nat} (hg : w.heap[g]? = some (.cells (A ++ (cs ++ B)).toArray t fr)) : w.rangeAt g A.length cs := by
  intro j v hv
  rw [cell_of_block hg, List.getElem?_toArray, List.getElem?_append_right (by omega), Nat.add_sub_cancel_left, List.getElem?_append_left (by obtain ⟨h, _⟩ := List.getElem?_eq_some_iff.1 hv; exact h)]
  exact hv

theorem succ_mod (sq M : Nat) (hM : 0 < M) : ∃ s2 : Nat, ((sq : Int) + 1) % (M : Int) = (s2 : Int) ∧ s2 < M := ⟨(sq + 1) % M, by rw [Int.natCast_emod]; rfl, Nat.mod_lt _ hM⟩
theorem succ_32 (sq : Nat) : ∃ s2 : Nat, ((sq : Int) + 1) % 4294967296 = (s2 : Int) ∧ s2 < 4294967296 := succ_mod sq 4294967296 (by decide)

set_option maxRecDepth 100000 in
set_option maxHeartbeats 32000000 in
theorem old_any (x : StA) (c : StC) (sq : Nat) (st : Bool) (ba : Option Addr) (bn bc : Nat) (l : List Int) (less p : Nat) (w : World) (hc : IsCf w (fun k => k < w.heap.size) x c) (hI : IsI w ba bn bc l) (hsq : sq < 4294967296) (hless : less < 4294967296) (hp : p < 256) :
    Calls Tryz.prog 4 #[.agg (x.cells c.t ++ [Value.int .u32 sq, Value.bool st, Value.slice ba bn bc, Value.int .u32 less, Value.int .u8 p]).toArray] w fun e w' => e = .returned (.bool true) ∧ Below w.heap.size w w' := by
  obtain ⟨ra, rn, rc, sa, sn, sc, sv, aa, an, ac, ua, un, uc⟩ := x
  obtain rfl : sn = c.s.length := hc.s.1
  obtain rfl := hI.1
  have hNO := fun w hc hm => made_no (fun k => k < w.heap.size) ⟨ra, rn, rc, sa, c.s.length, sc, sv, aa, an, ac, ua, un, uc⟩ c w hc hm
  have hYES := fun w P hc hP hm => made_yes P ⟨ra, rn, rc, sa, c.s.length, sc, sv, aa, an, ac, ua, un, uc⟩ c w hc hP hm
  unfold StA.cells at hNO hYES ⊢
  dsimp only [List.cons_append, List.nil_append] at hNO hYES ⊢
  have HNO := Lib.hid hNO
  have HYES := Lib.hid hYES
  obtain ⟨hb0, m0, m1, m2⟩ := alloc3_facts w (.cells #[.slice ra rn rc, .slice sa c.s.length sc, .slice aa an ac, .slice ua un uc, .int .u64 (c.t : Int), .int .u32 sq, .bool st, .slice ba l.length bc, .int .u32 less, .int .u8 p] 43 (0, 0)) (.cells #[.slice ra rn rc, .slice sa c.s.length sc, .slice aa an ac, .slice ua un uc, .int .u64 (c.t : Int)] 27 (0, 0)) (.cells #[.int .u32 sq, .bool st, .slice ba l.length bc] 41 (0, 0))
  have HQ0 := Lib.hid (heap_new w (.cells #[.slice ra rn rc, .slice sa c.s.length sc, .slice aa an ac, .slice ua un uc, .int .u64 (c.t : Int), .int .u32 sq, .bool st, .slice ba l.length bc, .int .u32 less, .int .u8 p] 43 (0, 0)))
  have HQ1 := Lib.hid (alloc2_facts w (.cells #[.slice ra rn rc, .slice sa c.s.length sc, .slice aa an ac, .slice ua un uc, .int .u64 (c.t : Int), .int .u32 sq, .bool st, .slice ba l.length bc, .int .u32 less, .int .u8 p] 43 (0, 0)) (.cells #[.slice ra rn rc, .slice sa c.s.length sc, .slice aa an ac, .slice ua un uc, .int .u64 (c.t : Int)] 27 (0, 0))).2.1
  have HM1 := Lib.hid m1
  have HC := Lib.hid (hc.below hb0)
  have HI := Lib.hid (show IsIp _ (fun k => k < w.heap.size) ba l.length bc l from (show IsIp w (fun k => k < w.heap.size) ba l.length bc l from ⟨hI, fun b off ha hl => hI.ltSize b off ha hl⟩).below hb0)
  have HB0 := Lib.hid hb0
  have HM2 := Lib.hid m2
  have c8 : (((w.alloc (.cells #[.slice ra rn rc, .slice sa c.s.length sc, .slice aa an ac, .slice ua un uc, .int .u64 (c.t : Int), .int .u32 sq, .bool st, .slice ba l.length bc, .int .u32 less, .int .u8 p] 43 (0, 0))).alloc (.cells #[.slice ra rn rc, .slice sa c.s.length sc, .slice aa an ac, .slice ua un uc, .int .u64 (c.t : Int)] 27 (0, 0))).alloc (.cells #[.int .u32 sq, .bool st, .slice ba l.length bc] 41 (0, 0))).cell? ⟨w.heap.size, 8, none⟩ = some (.int .u32 less) := by rw [cell_of_block m0]; rfl
  have c9 : (((w.alloc (.cells #[.slice ra rn rc, .slice sa c.s.length sc, .slice aa an ac, .slice ua un uc, .int .u64 (c.t : Int), .int .u32 sq, .bool st, .slice ba l.length bc, .int .u32 less, .int .u8 p] 43 (0, 0))).alloc (.cells #[.slice ra rn rc, .slice sa c.s.length sc, .slice aa an ac, .slice ua un uc, .int .u64 (c.t : Int)] 27 (0, 0))).alloc (.cells #[.int .u32 sq, .bool st, .slice ba l.length bc] 41 (0, 0))).cell? ⟨w.heap.size, 9, none⟩ = some (.int .u8 p) := by rw [cell_of_block m0]; rfl
  clear hNO hYES hc hI m0 m1 m2 hb0
  go_enter Tryz.func4, Tryz.ntmps4
  go_wp2_with (first
    | (refine wpList_load_mid rfl 27 (.tmp 17) rfl w.heap.size 0 rfl [.slice ra rn rc, .slice sa c.s.length sc, .slice aa an ac, .slice ua un uc, .int .u64 (c.t : Int)] _ (rangeAt_in (A := []) (B := [.int .u32 sq, .bool st, .slice ba l.length bc, .int .u32 less, .int .u8 p]) HQ0.out) Tryz.underlying27 rfl info_cfg ?_)
    | (refine wpList_load_mid rfl 41 (.tmp 19) rfl w.heap.size 5 rfl [.int .u32 sq, .bool st, .slice ba l.length bc] _ (rangeAt_in (A := [.slice ra rn rc, .slice sa c.s.length sc, .slice aa an ac, .slice ua un uc, .int .u64 (c.t : Int)]) (B := [.int .u32 less, .int .u8 p]) HQ1.out) Tryz.underlying41 rfl info_rec ?_)
    | (refine wpList_load_mid rfl 27 (.tmp 3) rfl (w.heap.size + 1) 0 rfl [.slice ra rn rc, .slice sa c.s.length sc, .slice aa an ac, .slice ua un uc, .int .u64 (c.t : Int)] _ (rangeAt_row HM1.out) Tryz.underlying27 rfl info_cfg ?_)
    | fail)
  clear HQ0 HQ1 HM1 c8 c9
  generalize (((w.alloc (.cells #[.slice ra rn rc, .slice sa c.s.length sc, .slice aa an ac, .slice ua un uc, .int .u64 (c.t : Int), .int .u32 sq, .bool st, .slice ba l.length bc, .int .u32 less, .int .u8 p] 43 (0, 0))).alloc (.cells #[.slice ra rn rc, .slice sa c.s.length sc, .slice aa an ac, .slice ua un uc, .int .u64 (c.t : Int)] 27 (0, 0))).alloc (.cells #[.int .u32 sq, .bool st, .slice ba l.length bc] 41 (0, 0))) = w0 at HC HI HB0 HM2 ⊢
  have HZ : Hid (w.heap.size + 1 + 1 < w0.heap.size) := Lib.hid (lt_of_heap HM2.out)
  cases hm : mayB c with
  | false =>
    refine (HNO.out w0 (HC.out.imp (fun k hk => by have := HZ.out; omega)) hm).mono ?_; rintro e w1 ⟨rfl, hb1⟩
    have HB1 := Lib.hid (HB0.out.trans (hb1.mono HB0.out.size))
    clear hb1 hm
    go_wp2_with fail
    refine (lives_any w1).mono ?_; rintro e w2 ⟨rfl, hb2⟩
    have HB2 := Lib.hid (HB1.out.trans (hb2.mono HB1.out.size))
    clear hb2
    go_wp2_with fail
    go_ret
    exact ⟨rfl, HB2.out⟩
  | true =>
    have HM := Lib.hid ((mayB_iff c).1 hm)
    refine (HYES.out w0 _ HC.out (fun k hk => by have := HZ.out; omega) hm).mono ?_; rintro e w1 ⟨bs, bd, bl, y, D, rfl, hb1, hs1, hg, hc1, r1, ⟨r2, rw2⟩, r3, r4⟩
    have HB1 := Lib.hid (HB0.out.trans (hb1.mono HB0.out.size))
    have HV1 := Lib.hid (below_heap hb1 HM2.out (lt_of_heap HM2.out))
    have HI1 := Lib.hid (HI.out.below hb1)
    have HS1 := Lib.hid hs1
    have HG : Hid (w0.heap.size ≤ bd ∧ w0.heap.size ≤ bl ∧ w0.heap.size ≤ bs) := Lib.hid hg
    have HPL := Lib.hid (old_plain r1 r2 (r4 0 (by have := HM.out.s; omega)) r3 ⟨sq, st, l⟩ hsq)
    have HR1 := Lib.hid r1
    have HW := Lib.hid rw2
    have hN1 : 1 ≤ c.s.length ∧ c.s.length ≤ 8 := HM.out.s
    have HN1 := Lib.hid hN1
    have f2 : w1.cell? ⟨w.heap.size + 1 + 1, 2, none⟩ = some (.slice ba l.length bc) := by rw [cell_of_block HV1.out]; rfl
    clear hb1 hs1 hg hc1 r1 r2 rw2 r3 r4 hm HNO HYES HC HI HM2 HB0 hN1
    by_cases h100 : 100 < l.length
    · have d1 : decide ((100 : Int) < (l.length : Int)) = true := decide_eq_true (by omega)
      have d2 : decide (100 < l.length) = true := decide_eq_true h100
      clear h100
      go_wp2_with fail
      refine (lives_any w1).mono ?_; rintro e w2 ⟨rfl, hb2⟩
      have HB2 := Lib.hid (HB1.out.trans (hb2.mono HB1.out.size))
      clear hb2
      go_wp2_with fail
      go_ret
      exact ⟨rfl, HB2.out⟩
    have d1 : decide ((100 : Int) < (l.length : Int)) = false := decide_eq_false (by omega)
    have d2 : decide (100 < l.length) = false := decide_eq_false h100
    have H100 : Hid (l.length ≤ 100) := Lib.hid (by omega)
    clear h100
    go_wp2_with (first
      | (refine wpList_load_mid rfl 41 (.tmp 4) rfl (w.heap.size + 1 + 1) 0 rfl [.int .u32 sq, .bool st, .slice ba l.length bc] _ (rangeAt_row HV1.out) Tryz.underlying41 rfl info_rec ?_)
      | fail)
    refine (set_ok bs bd bl y c D 0 sq st ba l.length bc l 6 w1 HS1.out HI1.out.1 hsq (by have := HN1.out; omega) (by have := HN1.out; omega) (by have := HM.out.r.2.1; omega) HR1.out.fine (by decide) (HR1.out.ltR 0 (by have := HN1.out; omega))).mono ?_; rintro e w2 ⟨rfl, ht2, hd2⟩
    have HB2 := Lib.hid (HB1.out.trans (ht2.below HB1.out.size (fun k hk e => by have := HG.out; have := HZ.out; omega)))
    have HV2 := Lib.hid (ht2.heap HV1.out (fun e => by have := HG.out; have := HZ.out; omega))
    have HI2 := Lib.hid (HI1.out.touch ht2 (fun k hk e => by have := HG.out; have := HZ.out; omega))
    have HS2 := Lib.hid (fun D' (h : setD c.s.length c.r.length D ((0 : Nat) : Int) ⟨sq, st, l⟩ = D') => (show IsStore w2 bs bd bl y c D'.2 from by rw [← h]; exact HS1.out.put ht2 hd2))
    clear ht2 hd2 f2 HB1 HV1 HI1 HS1
    rcases HPL.out with ⟨e0, a1, a2, a3⟩ | ⟨D2, a1, a2, a3, a4, a5, a6, a7⟩
    · rw [a2]
      have HST2 : Hid (IsStore w2 bs bd bl y c D) := Lib.hid (HS2.out _ a2)
      clear a2 HS2 HPL
      have f0 : w2.cell? ⟨w.heap.size + 1 + 1, 0, none⟩ = some (.int .u32 sq) := by rw [cell_of_block HV2.out]; rfl
      have dw : decide (0 < D.writes) = true := decide_eq_true HW.out
      rcases a3 with rfl | ⟨rfl, a3⟩
      · clear a1
        go_wp2_with fail
        refine (writes_disk bd bl D w2 HST2.out.disk).mono ?_; rintro e w3 ⟨rfl, rfl⟩
        go_wp2_with fail
        refine (lives_any w2).mono ?_; rintro e w4 ⟨rfl, hb4⟩
        have HB4 := Lib.hid (HB2.out.trans (hb4.mono HB2.out.size))
        clear hb4
        go_wp2_with fail
        go_ret
        exact ⟨rfl, HB4.out⟩
      · clear a1
        have a3' : sq = 0 := a3
        subst a3'
        go_wp2_with fail
        refine (writes_disk bd bl D w2 HST2.out.disk).mono ?_; rintro e w3 ⟨rfl, rfl⟩
        go_wp2_with fail
        refine (lives_any w2).mono ?_; rintro e w4 ⟨rfl, hb4⟩
        have HB4 := Lib.hid (HB2.out.trans (hb4.mono HB2.out.size))
        clear hb4
        go_wp2_with fail
        go_ret
        exact ⟨rfl, HB4.out⟩
    · rw [a1]
      have HST2 : Hid (IsStore w2 bs bd bl y c D2) := Lib.hid (HS2.out _ a1)
      have HA := Lib.hid (And.intro a2 (And.intro a3 (And.intro a4 (And.intro a5 (And.intro a6 a7)))))
      clear a1 a2 a3 a4 a5 a6 a7 HS2 HPL HR1 HW
      go_wp2_with fail
      refine (writes_disk bd bl D2 w2 HST2.out.disk).mono ?_; rintro e w3 ⟨rfl, rfl⟩
      go_wp2_with (first
        | (refine wpList_load_mid rfl 41 (.tmp 4) rfl (w.heap.size + 1 + 1) 0 rfl [.int .u32 sq, .bool st, .slice ba l.length bc] _ (rangeAt_row HV2.out) Tryz.underlying41 rfl info_rec ?_)
        | fail)
      refine (twinR_any sq st ba l.length bc l w2 HI2.out.1 (by have := H100.out; omega)).mono ?_; rintro e w3 ⟨g, rfl, hb3, hi3, hg3⟩
      have HB3 := Lib.hid (HB2.out.trans (hb3.mono HB2.out.size))
      have HV3 := Lib.hid (below_heap hb3 HV2.out (lt_of_heap HV2.out))
      have HI3 := Lib.hid (HI2.out.below hb3)
      have HS3 := Lib.hid (HST2.out.below hb3)
      have HX3 := Lib.hid hi3
      have hsq0 : ((sq : Int) == 0) = false := by have := HA.out.2.1; rw [beq_eq_false_iff_ne]; omega
      have hsq1 : (sq == 0) = false := by have := HA.out.2.1; rw [beq_eq_false_iff_ne]; omega
      have hsq2 : sq ≠ 0 := by simpa using hsq1
      have f0 : w3.cell? ⟨w.heap.size + 1 + 1, 0, none⟩ = some (.int .u32 sq) := by rw [cell_of_block HV3.out]; rfl
      have g0 := cell_alloc f0 (.cells #[.int .u32 sq, .bool st, .slice (some ⟨g, 0, none⟩) l.length (l.length + 1)] 41 (0, 0))
      clear hb3 hi3 HB2 HV2 HI2 HST2
      go_wp2_with fail
      have hmod : ((less : Int) % (sq : Int)) = ((less % sq : Nat) : Int) := (Int.natCast_emod less sq).symm
      rw [hmod]
      have hlm : less % sq < sq := Nat.mod_lt _ (by omega)
      have HLM := Lib.hid hlm
      have hsl : less % sq < 4294967296 := by omega
      clear hmod hsq0 hsq1 hsq2 f0 g0
      generalize less % sq = lm at HLM hlm hsl ⊢
      have hba : Below w3.heap.size w3 (w3.alloc (.cells #[.int .u32 lm, .bool st, .slice (some ⟨g, 0, none⟩) l.length (l.length + 1)] 41 (0, 0))) := (Below.refl _ _).alloc (Nat.le_refl _) _
      have HB4 := Lib.hid (HB3.out.trans (hba.mono HB3.out.size))
      have HV4 := Lib.hid (below_heap hba HV3.out (lt_of_heap HV3.out))
      have HI4 := Lib.hid (HI3.out.below hba)
      have HS4 := Lib.hid (HS3.out.below hba)
      have HX4 := Lib.hid (HX3.out.below hba)
      clear hba HB3 HV3 HI3 HS3 HX3
      generalize (w3.alloc (.cells #[.int .u32 lm, .bool st, .slice (some ⟨g, 0, none⟩) l.length (l.length + 1)] 41 (0, 0))) = w4 at HB4 HV4 HI4 HS4 HX4 ⊢
      refine (set_ok bs bd bl y c D2 0 lm st (some ⟨g, 0, none⟩) l.length (l.length + 1) l 12 w4 HS4.out HX4.out hsl (by have := HN1.out; omega) (by have := HN1.out; omega) (by have := HM.out.r.2.1; omega) HA.out.1.fine (by decide) (HA.out.1.ltR 0 (by have := HN1.out; omega))).mono ?_; rintro e w5 ⟨rfl, ht5, hd5⟩
      rw [HA.out.2.2.1 lm HLM.out] at hd5 ⊢
      have hP : ∀ k, k < w.heap.size ∨ k = w.heap.size + 1 + 1 → ¬ (k = bd ∨ k = bl) := fun k hk => by have := HG.out; have := HZ.out; omega
      have HP := Lib.hid hP
      have HB5 := Lib.hid (HB4.out.trans (ht5.below HB4.out.size (fun k hk => hP k (.inl hk))))
      have HV5 := Lib.hid (ht5.heap HV4.out (hP _ (.inr rfl)))
      have HI5 := Lib.hid (HI4.out.touch ht5 (fun k hk => hP k (.inl hk)))
      have HS5 : Hid (IsStore w5 bs bd bl y c D2) := Lib.hid (HS4.out.put ht5 hd5)
      clear ht5 hd5 HB4 HV4 HI4 HS4 HX4 hP hlm hsl
      go_wp2_with (first
        | (refine wpList_load_mid rfl 41 (.tmp 4) rfl (w.heap.size + 1 + 1) 0 rfl [.int .u32 sq, .bool st, .slice ba l.length bc] _ (rangeAt_row HV5.out) Tryz.underlying41 rfl info_rec ?_)
        | fail)
      refine (set_ok bs bd bl y c D2 0 sq st ba l.length bc l 12 w5 HS5.out HI5.out.1 hsq (by have := HN1.out; omega) (by have := HN1.out; omega) (by have := HM.out.r.2.1; omega) HA.out.1.fine (by decide) (HA.out.1.ltR 0 (by have := HN1.out; omega))).mono ?_; rintro e w6 ⟨rfl, ht6, hd6⟩
      rw [HA.out.2.2.2.1] at hd6 ⊢
      have HB6 := Lib.hid (HB5.out.trans (ht6.below HB5.out.size (fun k hk => HP.out k (.inl hk))))
      have HV6 := Lib.hid (ht6.heap HV5.out (HP.out _ (.inr rfl)))
      have HI6 := Lib.hid (HI5.out.touch ht6 (fun k hk => HP.out k (.inl hk)))
      have HS6 : Hid (IsStore w6 bs bd bl y c D2) := Lib.hid (HS5.out.put ht6 hd6)
      clear ht6 hd6 HB5 HV5 HI5 HS5
      go_wp2_with (first
        | (refine wpList_load_mid rfl 41 (.tmp 4) rfl (w.heap.size + 1 + 1) 0 rfl [.int .u32 sq, .bool st, .slice ba l.length bc] _ (rangeAt_row HV6.out) Tryz.underlying41 rfl info_rec ?_)
        | fail)
      refine (twinR_any sq st ba l.length bc l w6 HI6.out.1 (by have := H100.out; omega)).mono ?_; rintro e w7 ⟨g2, rfl, hb7, hi7, hg7⟩
      have HB7 := Lib.hid (HB6.out.trans (hb7.mono HB6.out.size))
      have HV7 := Lib.hid (below_heap hb7 HV6.out (lt_of_heap HV6.out))
      have HI7 := Lib.hid (HI6.out.below hb7)
      have HS7 := Lib.hid (HS6.out.below hb7)
      have HX7 := Lib.hid hi7
      have f0 : w7.cell? ⟨w.heap.size + 1 + 1, 0, none⟩ = some (.int .u32 sq) := by rw [cell_of_block HV7.out]; rfl
      have f1 : w7.cell? ⟨w.heap.size + 1 + 1, 1, none⟩ = some (.bool st) := by rw [cell_of_block HV7.out]; rfl
      have g0 := cell_alloc f0 (.cells #[.int .u32 sq, .bool st, .slice (some ⟨g2, 0, none⟩) l.length (l.length + 1)] 41 (0, 0))
      clear hb7 hi7 HB6 HV6 HI6 HS6
      have g1 := cell_alloc f1 (.cells #[.int .u32 (((sq : Int) + 1) % 4294967296), .bool st, .slice (some ⟨g2, 0, none⟩) l.length (l.length + 1)] 41 (0, 0))
      go_wp2_with fail
      obtain ⟨s2, hs2, hs2l⟩ := succ_32 sq
      rw [hs2]
      clear hs2 g0 g1 f0 f1
      have hba : Below w7.heap.size w7 (w7.alloc (.cells #[.int .u32 s2, .bool (!st), .slice (some ⟨g2, 0, none⟩) l.length (l.length + 1)] 41 (0, 0))) := (Below.refl _ _).alloc (Nat.le_refl _) _
      have HB8 := Lib.hid (HB7.out.trans (hba.mono HB7.out.size))
      have HV8 := Lib.hid (below_heap hba HV7.out (lt_of_heap HV7.out))
      have HS8 := Lib.hid (HS7.out.below hba)
      have HX8 := Lib.hid (HX7.out.below hba)
      clear hba HB7 HV7 HI7 HS7 HX7
      generalize (w7.alloc (.cells #[.int .u32 s2, .bool (!st), .slice (some ⟨g2, 0, none⟩) l.length (l.length + 1)] 41 (0, 0))) = w8 at HB8 HV8 HS8 HX8 ⊢
      refine (set_ok bs bd bl y c D2 0 s2 (!st) (some ⟨g2, 0, none⟩) l.length (l.length + 1) l 12 w8 HS8.out HX8.out hs2l (by have := HN1.out; omega) (by have := HN1.out; omega) (by have := HM.out.r.2.1; omega) HA.out.1.fine (by decide) (HA.out.1.ltR 0 (by have := HN1.out; omega))).mono ?_; rintro e w9 ⟨rfl, ht9, hd9⟩
      rw [HA.out.2.2.2.2.1 s2] at hd9 ⊢
      have HB9 := Lib.hid (HB8.out.trans (ht9.below HB8.out.size (fun k hk => HP.out k (.inl hk))))
      have HV9 := Lib.hid (ht9.heap HV8.out (HP.out _ (.inr rfl)))
      have HS9 : Hid (IsStore w9 bs bd bl y c D2) := Lib.hid (HS8.out.put ht9 hd9)
      have f2 : w9.cell? ⟨w.heap.size + 1 + 1, 2, none⟩ = some (.slice ba l.length bc) := by rw [cell_of_block HV9.out]; rfl
      have HTU := Lib.hid (fun (q : Nat) (hq : q < 256) => turn_pub bs bd bl y c D2 q none 0 0 [] 12 w9 HS9.out (IsI.nil _) (by decide) hq HA.out.1.fine (by decide) HA.out.1.lt12)
      have HT7 := Lib.hid HA.out.2.2.2.2.2
      have HS2L := Lib.hid hs2l
      clear ht9 hd9 HB8 HV8 HS8 HX8 hs2l
      have HL : Hid ((decide ((0 : Int) < (l.length : Int)) = false ∧ decide (0 < l.length) = false ∧ l.length = 0) ∨ (decide ((0 : Int) < (l.length : Int)) = true ∧ decide (0 < l.length) = true ∧ ((l.length : Int) == 0) = false)) := Lib.hid (by
        by_cases h : l.length = 0
        · exact .inl ⟨decide_eq_false (by omega), decide_eq_false (by omega), h⟩
        · exact .inr ⟨decide_eq_true (by omega), decide_eq_true (by omega), by rw [beq_eq_false_iff_ne]; omega⟩)
      have HPC : Hid ((((p : Int) == 1) = true ∧ p = 1) ∨ (p = 3) ∨ (p = 2) ∨ (p = 0) ∨ (((p : Int) == 1) = false ∧ ((p : Int) == 3) = false ∧ ((p : Int) == 2) = false ∧ ((p : Int) == 0) = false ∧ p ≠ 1 ∧ p ≠ 3 ∧ p ≠ 0)) := Lib.hid (by
        simp only [beq_iff_eq, beq_eq_false_iff_ne, ne_eq]; omega)
      have hlives : ∀ W, Below w.heap.size w W → Calls Tryz.prog 10 #[] W fun e w' => e = .returned (.bool true) ∧ Below w.heap.size w w' := fun W hW => (lives_any W).mono fun e w' ⟨h1, h2⟩ => ⟨h1, hW.trans (h2.mono hW.size)⟩
      have HLI := Lib.hid hlives
      clear hlives
      rcases HL.out with ⟨l1, l2, l3⟩ | ⟨l1, l2, l3⟩
      all_goals
        rcases HPC.out with ⟨_, rfl⟩ | rfl | rfl | rfl | ⟨p1, p3, p2, p0, n1, n3, n0⟩
        · go_wp2_with fail
          refine (HLI.out w9 HB9.out).mono ?_; rintro e wA ⟨rfl, hbA⟩
          go_wp2_with fail
          go_ret
          exact ⟨rfl, hbA⟩
        · go_wp2_with fail
          refine (HLI.out w9 HB9.out).mono ?_; rintro e wA ⟨rfl, hbA⟩
          go_wp2_with fail
          go_ret
          exact ⟨rfl, hbA⟩
        · go_wp2_with fail
          refine (HTU.out 2 (by decide)).mono ?_; rintro e wA ⟨rfl, htA, hdA⟩
          rw [HT7.out 2 (by decide) (by decide), if_neg (by decide)] at hdA ⊢
          have HBA := Lib.hid (HB9.out.trans (htA.below HB9.out.size (fun k hk => HP.out k (.inl hk))))
          have HDA := Lib.hid (show IsDisk wA bd bl D2 from hdA)
          have k2 : wA.cell? ⟨w.heap.size + 1 + 1, 2, none⟩ = some (.slice ba l.length bc) := by rw [cell_of_block (htA.heap HV9.out (HP.out _ (.inr rfl)))]; rfl
          clear htA hdA
          go_wp2_with fail
          refine (HLI.out wA HBA.out).mono ?_; rintro e wB ⟨rfl, hbB⟩
          go_wp2_with fail
          go_ret
          exact ⟨rfl, hbB⟩
        · go_wp2_with fail
          refine (HTU.out 0 (by decide)).mono ?_; rintro e wA ⟨rfl, htA, hdA⟩
          rw [HT7.out 0 (by decide) (by decide), if_pos (by rfl)] at hdA ⊢
          have HBA := Lib.hid (HB9.out.trans (htA.below HB9.out.size (fun k hk => HP.out k (.inl hk))))
          have HDA := Lib.hid (show IsDisk wA bd bl D2 from hdA)
          have k2 : wA.cell? ⟨w.heap.size + 1 + 1, 2, none⟩ = some (.slice ba l.length bc) := by rw [cell_of_block (htA.heap HV9.out (HP.out _ (.inr rfl)))]; rfl
          clear htA hdA
          go_wp2_with fail
          first
            | (refine (writes_disk bd bl D2 wA HDA.out).mono ?_; rintro e wC ⟨rfl, rfl⟩; go_wp2_with fail)
            | skip
          refine (HLI.out wA HBA.out).mono ?_; rintro e wB ⟨rfl, hbB⟩
          go_wp2_with fail
          go_ret
          exact ⟨rfl, hbB⟩
        · go_wp2_with fail
          refine (HTU.out p (by exact hp)).mono ?_; rintro e wA ⟨rfl, htA, hdA⟩
          rw [HT7.out p (by exact n1) (by exact n3), if_neg (by exact n0)] at hdA ⊢
          have HBA := Lib.hid (HB9.out.trans (htA.below HB9.out.size (fun k hk => HP.out k (.inl hk))))
          have HDA := Lib.hid (show IsDisk wA bd bl D2 from hdA)
          have k2 : wA.cell? ⟨w.heap.size + 1 + 1, 2, none⟩ = some (.slice ba l.length bc) := by rw [cell_of_block (htA.heap HV9.out (HP.out _ (.inr rfl)))]; rfl
          clear htA hdA
          go_wp2_with fail
          first
            | (refine (writes_disk bd bl D2 wA HDA.out).mono ?_; rintro e wC ⟨rfl, rfl⟩; go_wp2_with fail)
            | skip
          refine (HLI.out wA HBA.out).mono ?_; rintro e wB ⟨rfl, hbB⟩
          go_wp2_with fail
          go_ret
          exact ⟨rfl, hbB⟩

end Go.Proofs.YtggjhbpggddjmaaGreat
