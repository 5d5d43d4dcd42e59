/- Layer 20: StoresKept; conditions: those typed. -/
import Derived.Test.YtggjhbpggddjmaaGreatStAct
namespace Go.Proofs.YtggjhbpggddjmaaGreat
open Go.RowKit
set_option linter.unusedVariables false
set_option linter.unusedSimpArgs false

theorem sameM_true (P Q : Nat → Prop) (x y : MkA) (m : MkC) (w : World) (hx : IsMk w P x m) (hy : IsMk w Q y m) :
    Calls Tryz.prog 27 #[.agg x.cells.toArray, .agg y.cells.toArray] w fun e w' => e = .returned (.bool true) ∧ Below w.heap.size w w' :=
  (sameM_any P Q x y m m w hx hy).mono fun e w' h => ⟨by rw [h.1, decide_eq_true rfl], h.2⟩
theorem info_act : (Tryz.prog.info? 50).map (·.size) = some 10 := by kernel_rfl

set_option maxRecDepth 100000 in
set_option maxHeartbeats 32000000 in
theorem kept_any (x : StA) (c : StC) (la : Option Addr) (ln lc : Nat) (L : List AcV) (w : World) (hc : IsCf w (fun k => k < w.heap.size) x c) (hL : IsRows AcV.cells 10 w la ln lc L) (hR : ∀ x ∈ L, AcOk w x) (hm41 : L.length ≤ 2199023255552) :
    Calls Tryz.prog 8 #[.agg (x.cells c.t).toArray, .slice la ln lc] w fun e w' => e = .returned (.bool true) ∧ Below w.heap.size w w' := by
  obtain ⟨ra, rn, rc, sa, sn, sc, sv, aa, an, ac, ua, un, uc⟩ := x
  obtain rfl : sn = c.s.length := hc.s.1
  obtain rfl := hL.1
  have hNO := fun w hc hm => made_no (fun k => k < w.heap.size) ⟨ra, rn, rc, sa, c.s.length, sc, sv, aa, an, ac, ua, un, uc⟩ c w hc hm
  have hYES := fun w P hc hP hm => made_yes P ⟨ra, rn, rc, sa, c.s.length, sc, sv, aa, an, ac, ua, un, uc⟩ c w hc hP hm
  have hGR := fun w P hc hL hcm => great_any P ⟨ra, rn, rc, sa, c.s.length, sc, sv, aa, an, ac, ua, un, uc⟩ c la L.length lc L w hc hL hm41 hcm
  unfold StA.cells at hNO hYES hGR ⊢
  dsimp only at hNO hYES hGR ⊢
  have HNO := Lib.hid hNO
  have HYES := Lib.hid hYES
  have HGR := Lib.hid hGR
  have hb0 : Below w.heap.size w (w.alloc (.cells #[.slice ra rn rc, .slice sa c.s.length sc, .slice aa an ac, .slice ua un uc, .int .u64 (c.t : Int)] 27)) := (Below.refl _ _).alloc (Nat.le_refl _) _
  have hv := heap_new w (.cells #[.slice ra rn rc, .slice sa c.s.length sc, .slice aa an ac, .slice ua un uc, .int .u64 (c.t : Int)] 27 (0, 0))
  have HC := Lib.hid (hc.below hb0)
  have HCW := Lib.hid hc
  have HL := Lib.hid hL
  have HRO := Lib.hid hR
  clear hNO hYES hGR hc hL hR
  go_enter Tryz.func8, Tryz.ntmps8
  go_wp2_with (first
    | (refine wpList_load_mid rfl 27 (.tmp 2) rfl w.heap.size 0 rfl [.slice ra rn rc, .slice sa c.s.length sc, .slice aa an ac, .slice ua un uc, .int .u64 (c.t : Int)] _ (rangeAt_row hv) Tryz.underlying27 rfl info_cfg ?_)
    | fail)
  generalize w.alloc (.cells #[.slice ra rn rc, .slice sa c.s.length sc, .slice aa an ac, .slice ua un uc, .int .u64 (c.t : Int)] 27) = w0 at hb0 hv HC ⊢
  have HB0 := Lib.hid hb0
  have HV := Lib.hid hv
  have HZ : Hid (w.heap.size < w0.heap.size) := Lib.hid (lt_of_heap hv)
  clear hb0 hv
  cases hm : mayB c with
  | false =>
    refine (HNO.out w0 (HC.out.imp (fun k hk => by have := HZ.out; omega)) hm).mono ?_; rintro e w1 ⟨rfl, hb1⟩
    have HB1 := Lib.hid (HB0.out.trans (hb1.mono HB0.out.size))
    clear hb1 hm
    go_wp2_with fail
    refine (lives_any w1).mono ?_; rintro e w2 ⟨rfl, hb2⟩
    have HB2 := Lib.hid (HB1.out.trans (hb2.mono HB1.out.size))
    clear hb2
    go_wp2_with fail
    go_ret
    exact ⟨rfl, HB2.out⟩
  | true =>
    have HM := Lib.hid ((mayB_iff c).1 hm)
    refine (HYES.out w0 _ HC.out (fun k hk => by have := HZ.out; omega) hm).mono ?_; rintro e w1 ⟨bs, bd, bl, y, D, rfl, hb1, hs1, hg, hc1, r1, ⟨r2, -⟩, r3, r4⟩
    have HG : Hid (∀ k, k ≤ w.heap.size → ¬ (k = bd ∨ k = bl)) := Lib.hid (fun k hk => by have := HZ.out; omega)
    have hbe := HB0.out.trans (hb1.mono HB0.out.size)
    have HJ : Hid (OneS w c (.cells #[.slice ra rn rc, .slice sa c.s.length sc, .slice aa an ac, .slice ua un uc, .int .u64 (c.t : Int)] 27 (0, 0)) bs bd bl y D 1 w1) := Lib.hid ⟨hs1, r1, r2, below_heap hb1 HV.out (lt_of_heap HV.out), hbe⟩
    clear hb1 hs1 hg hc1 r1 r2 r3 r4 hm HNO HYES HC hbe
    have f0 : w1.cell? ⟨w.heap.size, 0, none⟩ = some (.slice ra rn rc) := by rw [cell_of_block HJ.out.cfg]; rfl
    have f1 : w1.cell? ⟨w.heap.size, 1, none⟩ = some (.slice sa c.s.length sc) := by rw [cell_of_block HJ.out.cfg]; rfl
    have f2 : w1.cell? ⟨w.heap.size, 2, none⟩ = some (.slice aa an ac) := by rw [cell_of_block HJ.out.cfg]; rfl
    have f3 : w1.cell? ⟨w.heap.size, 3, none⟩ = some (.slice ua un uc) := by rw [cell_of_block HJ.out.cfg]; rfl
    have f4 : w1.cell? ⟨w.heap.size, 4, none⟩ = some (.int .u64 (c.t : Int)) := by rw [cell_of_block HJ.out.cfg]; rfl
    go_wp2_with fail
    clear f0 f1 f2 f3 f4
    refine (HGR.out w1 _ (HCW.out.below HJ.out.bel) (HL.out.below HJ.out.bel) (by have := HM.out.s; omega)).mono ?_; rintro e w2 ⟨⟨gb, rfl⟩, hb2⟩
    have HJ2 := Lib.hid (HJ.out.below hb2)
    clear hb2 HJ HGR
    cases gb with
    | true =>
      go_wp2_with fail
      refine (lives_any w2).mono ?_; rintro e w3 ⟨rfl, hb3⟩
      have HB3 := Lib.hid (HJ2.out.bel.trans (hb3.mono HJ2.out.bel.size))
      clear hb3
      go_wp2_with fail
      go_ret
      exact ⟨rfl, HB3.out⟩
    | false =>
    go_wp2_with fail
    obtain ⟨N, hN⟩ : ∃ N, N = L.length := ⟨_, rfl⟩
    have HN := Lib.hid hN
    have h8 : 1 ≤ c.s.length ∧ c.s.length ≤ 8 := HM.out.s
    have hr8 : c.r.length ≤ 1000000 := by have := HM.out.r.2.1; omega
    clear hN
    go_loopw [7] (fun i wr => ∃ k : Nat, ∃ D', k ≤ L.length ∧ i = .int .i64 k ∧ Hid (OneS w c (.cells #[.slice ra rn rc, .slice sa c.s.length sc, .slice aa an ac, .slice ua un uc, .int .u64 (c.t : Int)] 27 (0, 0)) bs bd bl y D' (k + 1) wr)) (fun i _ => N - (intOf i).toNat)
    case atStart => exact ⟨0, D, Nat.zero_le _, rfl, HJ2⟩
    case round =>
      clear HJ2
      obtain ⟨k, Dk, hk, rfl, HJ⟩ := hrel
      by_cases hlt : k < L.length
      · obtain ⟨lb, lo, rfl, hlb, hcells⟩ : ∃ lb lo, la = some ⟨lb, lo, none⟩ ∧ lb < w.heap.size ∧ ∀ i (hi : i < L.length) j v, (L[i].cells)[j]? = some v → w.cell? ⟨lb, lo + i * 10 + j, none⟩ = some v := by
          rcases HL.out.2.2.2 with h | h
          · rw [h] at hlt; exact absurd hlt (by simp)
          · exact h
        have hro := HRO.out L[k] (List.getElem_mem hlt)
        have hra : wr.rangeAt lb (lo + k * 10) L[k].cells := fun j v hj => (HJ.out.bel.cell (p := ⟨lb, lo + k * 10 + j, none⟩) hlb).trans (hcells k hlt j v hj)
        clear hcells
        generalize L[k] = xa at hro hra
        obtain ⟨kd, who, ⟨sq, st, ba, bn, bc, bl'⟩, p, oa, on, oc, ol, nn, at1, b1, b2, b3, b4⟩ := xa
        have HRO1 := Lib.hid hro
        have hwl : -9223372036854775808 ≤ who ∧ who ≤ 9223372036854775807 := hro.who
        unfold AcV.cells at hra
        dsimp only at hra
        have HRA := Lib.hid hra
        have hkd : kd < 256 := hro.k
        clear hra hro
        go_wp2_with (first
          | (refine wpList_load_mid rfl 50 (.tmp 41) rfl lb (lo + k * 10) rfl [.int .u8 kd, .int .i64 who, .int .u32 sq, .bool st, .slice ba bn bc, .int .u8 p, .slice oa on oc, .int .i64 nn, .int .i64 at1, .slice b1 b2 b3] _ HRA.out Tryz.underlying50 rfl info_act ?_)
          | fail)
        all_goals
          have HJ1 := Lib.hid (HJ.out.below ((Below.refl _ wr).alloc (Nat.le_refl _) (.cells #[.int .u8 kd, .int .i64 who, .int .u32 sq, .bool st, .slice ba bn bc, .int .u8 p, .slice oa on oc, .int .i64 nn, .int .i64 at1, .slice b1 b2 b3] 50 (0, 0))))
          clear HJ HRA
          generalize wr.alloc (.cells #[.int .u8 kd, .int .i64 who, .int .u32 sq, .bool st, .slice ba bn bc, .int .u8 p, .slice oa on oc, .int .i64 nn, .int .i64 at1, .slice b1 b2 b3] 50 (0, 0)) = w1 at HJ1 ⊢
          have hkb : k + 1 ≤ 10000000000000 := by omega
          first
            | (refine (HJ1.out.set HG.out hkb who ⟨sq, st, ba, bn, bc, bl'⟩ HRO1.out.r).mono ?_; rintro e w3 ⟨rfl, hj3⟩; generalize setD c.s.length c.r.length Dk who (RcV.r ⟨sq, st, ba, bn, bc, bl'⟩) = DD at hj3 ⊢)
            | (refine (HJ1.out.turn HG.out hkb p HRO1.out.p oa on oc ol HRO1.out.o.1 HRO1.out.o.2).mono ?_; rintro e w3 ⟨rfl, hj3⟩; generalize turnD c.s.length Dk p ol = DD at hj3 ⊢)
          obtain ⟨e1, D3⟩ := DD
          dsimp only at hj3 ⊢
          have HJ3 := Lib.hid hj3
          clear hj3 HJ1 HRO1 hkd
          go_wp2_with fail
          refine (copy_disk' bd bl D3 w3 HJ3.out.st.disk).mono ?_; rintro e w4 ⟨cd, cl, rfl, hb4, _, _, hd4⟩
          have HJ4 := Lib.hid (HJ3.out.below hb4)
          have HD4 := Lib.hid hd4
          clear hb4 hd4 HJ3
          go_wp2_with fail
          refine (open_any cd cl (copyD D3) w4 HD4.out).mono ?_; rintro e w5 ⟨hoq, hb5⟩
          obtain ⟨i1, i2, i3⟩ := HJ4.out.inv.copy
          obtain ⟨bs2, y2, rfl, hs2⟩ : ∃ (bs2 : Nat) (y2 : StA), e = .returned (.tuple #[.pointer (some ⟨bs2, 0, none⟩), .int .i64 0]) ∧ IsStore w5 bs2 cd cl y2 c (copyD D3) := by
            rcases hoq with ⟨q, h1, _⟩ | ⟨c', h1, bs2, y2, h2, h3, _⟩
            · rw [i1.open] at h1; cases h1
            · rw [i1.open] at h1; cases h1; exact ⟨bs2, y2, h2, h3⟩
          have HJ5 := Lib.hid (HJ4.out.below hb5)
          have HT : Hid (TwoS w c (.cells #[.slice ra rn rc, .slice sa c.s.length sc, .slice aa an ac, .slice ua un uc, .int .u64 (c.t : Int)] 27 (0, 0)) bs bd bl y D3 bs2 cd cl y2 (copyD D3) w5) := Lib.hid ⟨HJ5.out.st, hs2, HJ5.out.cfg, HJ5.out.bel⟩
          have HI := Lib.hid (And.intro HJ5.out.inv (And.intro HJ5.out.left (And.intro i2 i3)))
          clear hoq hb5 hs2 i1 i2 i3 HJ4 HD4 HJ5
          go_wp2_with fail
          refine (phase_pub bs2 cd cl y2 c (copyD D3) w5 HT.out.st2).mono ?_; rintro e w6 ⟨rfl, hb6⟩
          rw [HI.out.2.2.1]
          have HT6 := Lib.hid (HT.out.below hb6)
          clear hb6 HT
          go_wp2_with fail
          refine (phase_pub bs bd bl y c D3 w6 HT6.out.st).mono ?_; rintro e w7 ⟨rfl, hb7⟩
          have HT7 := Lib.hid (HT6.out.below hb7)
          clear hb7 HT6
          generalize (phD c.s.length D3).1 = ph
          have s1 : w7.cell? ⟨w.heap.size, 1, none⟩ = some (.slice sa c.s.length sc) := by rw [cell_of_block HT7.out.cfg]; rfl
          go_wp2_with fail
          clear s1
          obtain ⟨M, hM⟩ : ∃ M, M = c.s.length := ⟨_, rfl⟩
          have HM' := Lib.hid hM
          clear hM
          go_loopw [13] (fun i wq => ∃ j : Nat, j ≤ c.s.length ∧ i = .int .i64 j ∧ Hid (TwoS w c (.cells #[.slice ra rn rc, .slice sa c.s.length sc, .slice aa an ac, .slice ua un uc, .int .u64 (c.t : Int)] 27 (0, 0)) bs bd bl y D3 bs2 cd cl y2 (copyD D3) wq)) (fun i _ => M - (intOf i).toNat)
          case atStart => exact ⟨0, Nat.zero_le _, rfl, HT7⟩
          case round =>
            clear HT7
            obtain ⟨j, hj, rfl, HT⟩ := hrel
            have s1 : wr.cell? ⟨w.heap.size, 1, none⟩ = some (.slice sa c.s.length sc) := by rw [cell_of_block HT.out.cfg]; rfl
            by_cases hlt2 : j < c.s.length
            · go_wp2_with fail
              clear s1
              refine (record_ok bs bd bl y c D3 j wr HT.out.st hlt2 (by omega) hr8).mono ?_; rintro e w8 ⟨r1a, rfl, hb8, hn8⟩
              have HR2 := Lib.hid (HI.out.2.2.2 j hlt2)
              obtain ⟨⟨⟨sq1, st1, l1⟩, ok1⟩, hrr⟩ : ∃ r, rcD c.r.length D3 j = r := ⟨_, rfl⟩
              rw [hrr] at hn8 HR2 ⊢
              dsimp only at hn8 ⊢
              have hbA : Below wr.heap.size wr (w8.alloc (.cells #[.int .u32 (sq1 : Int), .bool st1, .slice r1a l1.length l1.length] 41 (0, 0))) := hb8.alloc hb8.size _
              have HT8 := Lib.hid (HT.out.below hbA)
              have HV8 := Lib.hid (heap_new w8 (.cells #[.int .u32 (sq1 : Int), .bool st1, .slice r1a l1.length l1.length] 41 (0, 0)))
              have HN8 := Lib.hid (hn8.isI.below ((Below.refl _ w8).alloc (Nat.le_refl _) (.cells #[.int .u32 (sq1 : Int), .bool st1, .slice r1a l1.length l1.length] 41 (0, 0))))
              clear hb8 hn8 hbA hrr HT
              go_wp2_with fail
              generalize w8.alloc (.cells #[.int .u32 (sq1 : Int), .bool st1, .slice r1a l1.length l1.length] 41 (0, 0)) = w9 at HT8 HV8 HN8 ⊢
              refine (record_ok bs2 cd cl y2 c (copyD D3) j w9 HT8.out.st2 hlt2 (by omega) hr8).mono ?_; rintro e wA ⟨r2a, rfl, hbA, hnA⟩
              rw [HR2.out] at hnA ⊢
              dsimp only at hnA ⊢
              have hbB : Below w9.heap.size w9 (wA.alloc (.cells #[.int .u32 (sq1 : Int), .bool st1, .slice r2a l1.length l1.length] 41 (0, 0))) := hbA.alloc hbA.size _
              have HT9 := Lib.hid (HT8.out.below hbB)
              have v9 := below_heap hbB HV8.out (lt_of_heap HV8.out)
              have HN9 := Lib.hid (HN8.out.below hbB)
              have HN10 := Lib.hid (hnA.isI.below ((Below.refl _ wA).alloc (Nat.le_refl _) (.cells #[.int .u32 (sq1 : Int), .bool st1, .slice r2a l1.length l1.length] 41 (0, 0))))
              have a0 : (wA.alloc (.cells #[.int .u32 (sq1 : Int), .bool st1, .slice r2a l1.length l1.length] 41 (0, 0))).cell? ⟨w8.heap.size, 0, none⟩ = some (.int .u32 (sq1 : Int)) := by rw [cell_of_block v9]; rfl
              have a1 : (wA.alloc (.cells #[.int .u32 (sq1 : Int), .bool st1, .slice r2a l1.length l1.length] 41 (0, 0))).cell? ⟨w8.heap.size, 1, none⟩ = some (.bool st1) := by rw [cell_of_block v9]; rfl
              have a2 : (wA.alloc (.cells #[.int .u32 (sq1 : Int), .bool st1, .slice r2a l1.length l1.length] 41 (0, 0))).cell? ⟨w8.heap.size, 2, none⟩ = some (.slice r1a l1.length l1.length) := by rw [cell_of_block v9]; rfl
              clear hbA hnA hbB HT8 HV8 HN8 v9 HR2
              go_wp2_with fail
              clear a0 a1 a2
              generalize wA.alloc (.cells #[.int .u32 (sq1 : Int), .bool st1, .slice r2a l1.length l1.length] 41 (0, 0)) = wB at HT9 HN9 HN10 ⊢
              refine (sameR_any sq1 sq1 st1 st1 r1a r2a l1.length l1.length l1.length l1.length l1 l1 wB HN9.out HN10.out).mono ?_; rintro e wC ⟨rfl, hbC⟩
              rw [show decide ((⟨sq1, st1, l1⟩ : StR) = ⟨sq1, st1, l1⟩) = true from decide_eq_true rfl]
              have HTC := Lib.hid (HT9.out.below hbC)
              clear hbC HT9 HN9 HN10
              go_wp2_with fail
              go_roundw
              case rel => exact ⟨j + 1, by omega, by go_num, HTC⟩
              case measure => have := HM'.out; simp [intOf]; omega
            · have hjj : j = c.s.length := by omega
              subst hjj
              go_wp2_with fail
              clear s1
              refine (market_pub bs bd bl y c D3 wr HT.out.st (by omega) hr8).mono ?_; rintro e w8 ⟨hmq, hb8⟩
              obtain ⟨x1, rfl, hm1⟩ := hmq.is
              have hmr := mktR_eq HI.out.2.2.1 HI.out.2.2.2
              have HMR := Lib.hid hmr
              clear hmr hmq
              generalize hmm : mktR c D3 = mm at HMR hm1 ⊢
              obtain ⟨m1, k1⟩ := mm
              dsimp only at hm1 ⊢
              have hbA : Below wr.heap.size wr (w8.alloc (.cells x1.cells.toArray 66 (0, 0))) := hb8.alloc hb8.size _
              have HT8 := Lib.hid (HT.out.below hbA)
              have HV8 := Lib.hid (heap_new w8 (.cells x1.cells.toArray 66 (0, 0)))
              have HM8 := Lib.hid (hm1.below ((Below.refl _ w8).alloc (Nat.le_refl _) (.cells x1.cells.toArray 66 (0, 0))))
              clear hbA hm1 hb8 HT hmm
              obtain ⟨ra1, rn1, rc1, ba1, bn1, bc1, bv1, oa1, on1, oc1⟩ := x1
              unfold MkA.cells at HT8 HV8 HM8 ⊢
              dsimp only at HT8 HV8 HM8 ⊢
              go_wp2_with fail
              generalize w8.alloc (.cells #[.slice ra1 rn1 rc1, .slice ba1 bn1 bc1, .slice oa1 on1 oc1] 66 (0, 0)) = w9 at HT8 HV8 HM8 ⊢
              refine (market_pub bs2 cd cl y2 c (copyD D3) w9 HT8.out.st2 (by omega) hr8).mono ?_; rintro e wA ⟨hmq, hbA⟩
              obtain ⟨x2, rfl, hm2⟩ := hmq.is
              rw [HMR.out] at hm2 ⊢
              dsimp only at hm2 ⊢
              have hbB : Below w9.heap.size w9 (wA.alloc (.cells x2.cells.toArray 66 (0, 0))) := hbA.alloc hbA.size _
              have HT9 := Lib.hid (HT8.out.below hbB)
              have HM9 := Lib.hid (HM8.out.below hbB)
              have HM10 := Lib.hid (hm2.below ((Below.refl _ wA).alloc (Nat.le_refl _) (.cells x2.cells.toArray 66 (0, 0))))
              have v9 := below_heap hbB HV8.out (lt_of_heap HV8.out)
              obtain ⟨ra2, rn2, rc2, ba2, bn2, bc2, bv2, oa2, on2, oc2⟩ := x2
              have HSM := Lib.hid (fun W h1 h2 => sameM_true (fun k => wr.heap.size ≤ k) (fun k => w9.heap.size ≤ k) ⟨ra1, rn1, rc1, ba1, bn1, bc1, bv1, oa1, on1, oc1⟩ ⟨ra2, rn2, rc2, ba2, bn2, bc2, bv2, oa2, on2, oc2⟩ m1 W h1 h2)
              unfold MkA.cells at HT9 HM9 HM10 HSM v9 ⊢
              dsimp only at HT9 HM9 HM10 HSM v9 ⊢
              have a0 : (wA.alloc (.cells #[.slice ra2 rn2 rc2, .slice ba2 bn2 bc2, .slice oa2 on2 oc2] 66 (0, 0))).cell? ⟨w8.heap.size, 0, none⟩ = some (.slice ra1 rn1 rc1) := by rw [cell_of_block v9]; rfl
              have a1 : (wA.alloc (.cells #[.slice ra2 rn2 rc2, .slice ba2 bn2 bc2, .slice oa2 on2 oc2] 66 (0, 0))).cell? ⟨w8.heap.size, 1, none⟩ = some (.slice ba1 bn1 bc1) := by rw [cell_of_block v9]; rfl
              have a2 : (wA.alloc (.cells #[.slice ra2 rn2 rc2, .slice ba2 bn2 bc2, .slice oa2 on2 oc2] 66 (0, 0))).cell? ⟨w8.heap.size, 2, none⟩ = some (.slice oa1 on1 oc1) := by rw [cell_of_block v9]; rfl
              clear hbA hbB hm2 hmq HT8 HV8 HM8 v9
              go_wp2_with fail
              clear a0 a1 a2
              generalize wA.alloc (.cells #[.slice ra2 rn2 rc2, .slice ba2 bn2 bc2, .slice oa2 on2 oc2] 66 (0, 0)) = wB at HT9 HM9 HM10 ⊢
              refine (HSM.out wB HM9.out HM10.out).mono ?_; rintro e wC ⟨rfl, hbC⟩
              have HTC := Lib.hid (HT9.out.below hbC)
              have HJE : Hid (OneS w c (.cells #[.slice ra rn rc, .slice sa c.s.length sc, .slice aa an ac, .slice ua un uc, .int .u64 (c.t : Int)] 27 (0, 0)) bs bd bl y D3 (k + 1 + 1) wC) := Lib.hid ⟨HTC.out.st, HI.out.1, HI.out.2.1, HTC.out.cfg, HTC.out.bel⟩
              clear hbC HT9 HM9 HM10 HSM HTC
              go_wp2_with fail
              go_roundw
              case rel => exact ⟨k + 1, D3, by omega, by go_num, HJE⟩
              case measure => have := HN.out; simp [intOf]; omega
      · have hkk : k = L.length := by omega
        subst hkk
        go_wp2_with fail
        refine (lives_any wr).mono ?_; rintro e wF ⟨rfl, hbF⟩
        have HBF := Lib.hid (HJ.out.bel.trans (hbF.mono HJ.out.bel.size))
        clear hbF
        go_wp2_with fail
        go_ret
        exact ⟨rfl, HBF.out⟩

end Go.Proofs.YtggjhbpggddjmaaGreat
