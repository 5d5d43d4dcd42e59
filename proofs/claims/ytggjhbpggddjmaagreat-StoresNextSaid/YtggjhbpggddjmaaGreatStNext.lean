/- Layer 20: StoresNext; conditions: those typed. -/
import Derived.Test.YtggjhbpggddjmaaGreatGStTw
namespace Go.Proofs.YtggjhbpggddjmaaGreat
open Go.RowKit
set_option linter.unusedVariables false
set_option linter.unusedSimpArgs false

/-- One round, in plain words. -/
theorem next_round {c : StC} {D : Dsk} {j p q : Nat} (h : StInv c D j) (hj : j ≤ 1000) (hl : D.left = -1) (hp : (phD c.s.length D).1 = p) (l : List Int) (hq : (q = 2 ∧ l = allC c.s.length) ∨ (q ≠ 2 ∧ l = [])) :
    ∃ e D', turnD c.s.length D q l = (e, D') ∧ StInv c D' (j + 1) ∧ D'.left = -1 ∧ (e == 0) = nextC p q ∧ (phD c.s.length D').1 = if nextC p q = true then q else p := by
  obtain ⟨e, D', h1, h2, _, h3⟩ := h.turn q l (free_room h.blown hl 2)
  refine ⟨e, D', h1, h2, ?_⟩
  rcases h3 with ⟨rfl, a1, a2, a3, a4⟩ | ⟨b1, rfl, b2⟩
  · rw [hp] at a2
    rw [a2, a3]
    exact ⟨a4 hl, rfl, rfl⟩
  · have hn : nextC p q = false := by
      rcases b2 with ⟨b2, _⟩ | ⟨_, b2, _⟩
      · rcases hq with ⟨rfl, rfl⟩ | ⟨hq, rfl⟩
        · unfold turnsC at b2
          rw [if_pos rfl, ordC_all] at b2
          cases b2
        · unfold turnsC at b2
          rw [if_neg hq] at b2
          simp at b2
          unfold nextC
          simp only [Bool.or_eq_false_iff, Bool.and_eq_false_iff, beq_eq_false_iff_ne, ne_eq]
          omega
      · rw [hp] at b2; exact b2
    rw [hn, if_neg (by decide)]
    exact ⟨hl, by rw [beq_eq_false_iff_ne]; exact b1, hp⟩
theorem allC_succ (n : Nat) : allC (n + 1) = allC n ++ [(n : Int)] := by simp [allC, List.range_succ]

/-- Between two rounds. -/
def NxS (w : World) (c : StC) (bs bd bl : Nat) (y : StA) (oa : Option Addr) (oc : Nat) (j p : Nat) (wr : World) : Prop :=
  ∃ D, IsStore wr bs bd bl y c D ∧ StInv c D (j + 1) ∧ D.left = -1 ∧ (phD c.s.length D).1 = p ∧ Below w.heap.size w wr ∧ (w.heap.size ≤ bd ∧ w.heap.size ≤ bl) ∧ IsIp wr (fun k => ¬ (k = bd ∨ k = bl)) oa c.s.length oc (allC c.s.length)

set_option maxRecDepth 100000 in
set_option maxHeartbeats 32000000 in
theorem next_any (x : StA) (c : StC) (la : Option Addr) (ln lc : Nat) (l : List UInt8) (w : World) (hc : IsCf w (fun k => k < w.heap.size) x c) (hlB : IsB w la ln lc l) :
    Calls Tryz.prog 3 #[.agg (x.cells c.t).toArray, .slice la ln lc] w fun e w' => e = .returned (.bool true) ∧ Below w.heap.size w w' := by
  obtain ⟨ra, rn, rc, sa, sn, sc, sv, aa, an, ac, ua, un, uc⟩ := x
  obtain rfl : sn = c.s.length := hc.s.1
  obtain rfl := hlB.1
  have hNO := fun w hc hm => made_no (fun k => k < w.heap.size) ⟨ra, rn, rc, sa, c.s.length, sc, sv, aa, an, ac, ua, un, uc⟩ c w hc hm
  have hYES := fun w P hc hP hm => made_yes P ⟨ra, rn, rc, sa, c.s.length, sc, sv, aa, an, ac, ua, un, uc⟩ c w hc hP hm
  unfold StA.cells at hNO hYES ⊢
  dsimp only at hNO hYES ⊢
  have HNO := Lib.hid hNO
  have HYES := Lib.hid hYES
  have hb0 : Below w.heap.size w (w.alloc (.cells #[.slice ra rn rc, .slice sa c.s.length sc, .slice aa an ac, .slice ua un uc, .int .u64 (c.t : Int)] 27)) := (Below.refl _ _).alloc (Nat.le_refl _) _
  have hv := heap_new w (.cells #[.slice ra rn rc, .slice sa c.s.length sc, .slice aa an ac, .slice ua un uc, .int .u64 (c.t : Int)] 27 (0, 0))
  have HC := Lib.hid (hc.below hb0)
  have HL := Lib.hid hlB
  clear hNO hYES hc hlB
  go_enter Tryz.func3, Tryz.ntmps3
  go_wp2_with (first
    | (refine wpList_load_mid rfl 27 (.tmp 2) rfl w.heap.size 0 rfl [.slice ra rn rc, .slice sa c.s.length sc, .slice aa an ac, .slice ua un uc, .int .u64 (c.t : Int)] _ (rangeAt_row hv) Tryz.underlying27 rfl info_cfg ?_)
    | fail)
  generalize w.alloc (.cells #[.slice ra rn rc, .slice sa c.s.length sc, .slice aa an ac, .slice ua un uc, .int .u64 (c.t : Int)] 27) = w0 at hb0 hv HC ⊢
  have HB0 := Lib.hid hb0
  have HV := Lib.hid hv
  have HZ : Hid (w.heap.size ≤ w0.heap.size) := Lib.hid hb0.size
  clear hb0 hv
  cases hm : mayB c with
  | false =>
    refine (HNO.out w0 (HC.out.imp (fun k hk => Nat.lt_of_lt_of_le hk HZ.out)) hm).mono ?_; rintro e w1 ⟨rfl, hb1⟩
    have HB1 := Lib.hid (HB0.out.trans (hb1.mono HB0.out.size))
    clear hb1 hm
    go_wp2_with fail
    refine (lives_any w1).mono ?_; rintro e w2 ⟨rfl, hb2⟩
    have HB2 := Lib.hid (HB1.out.trans (hb2.mono HB1.out.size))
    clear hb2
    go_wp2_with fail
    go_ret
    exact ⟨rfl, HB2.out⟩
  | true =>
    have HM := Lib.hid ((mayB_iff c).1 hm)
    refine (HYES.out w0 _ HC.out (fun k hk => Nat.lt_of_lt_of_le hk HZ.out) hm).mono ?_; rintro e w1 ⟨bs, bd, bl, y, D, rfl, hb1, hs1, hg, hc1, r1, ⟨r2, -⟩, r3, r4⟩
    have HB1 := Lib.hid (HB0.out.trans (hb1.mono HB0.out.size))
    have HV1 := Lib.hid (below_heap hb1 HV.out (lt_of_heap HV.out))
    have HS1 := Lib.hid hs1
    have HR := Lib.hid (And.intro r1 (And.intro r2 (by rw [r3] : (phD c.s.length D).1 = 0)))
    have HG : Hid (w.heap.size ≤ bd ∧ w.heap.size ≤ bl) := Lib.hid ⟨Nat.le_trans HZ.out hg.1, Nat.le_trans HZ.out hg.2.1⟩
    clear hb1 hs1 hg hc1 r1 r2 r3 r4 hm HNO HYES HC
    by_cases h30 : 30 < l.length
    · have d1 : decide ((30 : Int) < (l.length : Int)) = true := decide_eq_true (by omega)
      have d2 : decide (30 < l.length) = true := decide_eq_true h30
      clear h30
      go_wp2_with fail
      refine (lives_any w1).mono ?_; rintro e w2 ⟨rfl, hb2⟩
      have HB2 := Lib.hid (HB1.out.trans (hb2.mono HB1.out.size))
      clear hb2
      go_wp2_with fail
      go_ret
      exact ⟨rfl, HB2.out⟩
    · have d1 : decide ((30 : Int) < (l.length : Int)) = false := decide_eq_false (by omega)
      have d2 : decide (30 < l.length) = false := decide_eq_false h30
      have H30 : Hid (l.length ≤ 30) := Lib.hid (by omega)
      clear h30
      go_wp2_with fail
      obtain ⟨N, hN⟩ : ∃ N, N = c.s.length := ⟨_, rfl⟩
      have HN := Lib.hid hN
      have h8 : c.s.length ≤ 8 := HM.out.s.2
      clear hN
      go_loopw [8, 7] (fun i s wr => ∃ j : Nat, ∃ b' c', j ≤ c.s.length ∧ i = .int .i64 j ∧ s = .slice b' j c' ∧ wr.ownsRow w1.heap.size 3 1 (.slice b' j c') j (icells (allC j)) ∧ Below w1.heap.size w1 wr) (fun i _ _ => N - (intOf i).toNat)
      case atStart => exact ⟨0, none, 0, Nat.zero_le _, rfl, rfl, World.ownsRow_nil _ _ _ _, Below.refl _ _⟩
      case round =>
        obtain ⟨j, b', c', hj, rfl, rfl, hown, hbw⟩ := hrel
        have HVr := Lib.hid (below_heap hbw HV1.out (lt_of_heap HV1.out))
        have f1 : wr.cell? ⟨w.heap.size, 1, none⟩ = some (.slice sa c.s.length sc) := by rw [cell_of_block HVr.out]; rfl
        by_cases hlt : j < c.s.length
        · go_wp2_with (at_builtin; refine wpList_append_any rowInt rfl (.tmp 34) (.tmp 36) rfl w1.heap.size _ j (icells (allC j)) rfl (hown.alloc _) (some ⟨wr.heap.size, 0, none⟩) 1 1 [.int .i64 j] rfl rfl (At.one _ _ _) (one_cell _ rfl) (by unfold maxLen; omega) (by omega) (by simp; exact Nat.le_trans hbw.size (Nat.le_succ _)) ?_; intro b2 c2 w2 hown2 hg2 hat2)
          have hB2 := (hbw.alloc hbw.size _).grown hg2 (by simp; exact Nat.le_trans hbw.size (Nat.le_succ _)) (fun i hi => owns_base hown i hi)
          have ht : icells (allC j) ++ [.int .i64 j] = icells (allC (j + 1)) := by rw [allC_succ]; simp [icells]
          rw [ht] at hown2
          have HOW := Lib.hid hown2
          have HB2 := Lib.hid hB2
          clear hown2 ht hown hg2 hat2 hbw HVr f1 hB2
          go_wp2_with fail
          go_roundw
          case rel => exact ⟨j + 1, b2, c2, by omega, by go_num, rfl, HOW.out, HB2.out⟩
          case measure => have := HN.out; simp [intOf]; omega
        · have hjk : j = c.s.length := by omega
          subst hjk
          have hii := isI_of_owns hown (by rw [allC_length])
          have HST : Hid (NxS w c bs bd bl y b' c' 0 0 wr) := Lib.hid ⟨D, HS1.out.below hbw, HR.out.1, HR.out.2.1, HR.out.2.2, HB1.out.trans (hbw.mono HB1.out.size), HG.out, hii, fun b off ha _ => by
            have h1 := owns_base hown b (by rw [ha]; rfl)
            have h2 := HS1.out.lt
            omega⟩
          clear hown hbw hii
          go_wp2_with fail
          clear f1 HVr
          obtain ⟨M, hM⟩ : ∃ M, M = l.length := ⟨_, rfl⟩
          have HM2 := Lib.hid hM
          clear hM
          go_loopw [10, 9] (fun i pv wq => ∃ k p : Nat, k ≤ l.length ∧ i = .int .i64 k ∧ pv = .int .u8 p ∧ Hid (NxS w c bs bd bl y b' c' k p wq)) (fun i _ _ => M - (intOf i).toNat)
          case atStart => exact ⟨0, 0, Nat.zero_le _, rfl, rfl, HST⟩
          case round =>
            clear HST
            obtain ⟨k, p, hk, rfl, rfl, HST⟩ := hrel
            by_cases hkl : k < l.length
            · obtain ⟨lb, lo, rfl, hlb, hcells⟩ : ∃ lb lo, la = some ⟨lb, lo, none⟩ ∧ lb < w.heap.size ∧ ∀ i (h : i < l.length), w.cell? ⟨lb, lo + i, none⟩ = some (.int .u8 l[i].toNat) := by
                rcases HL.out.2.2.2 with ⟨h, _⟩ | ⟨b, off, h1, h2, h3⟩
                · rw [h] at hkl; exact absurd hkl (by simp)
                · exact ⟨b, off, h1, h2, h3⟩
              obtain ⟨Dk, s1, s2, s3, s4, s5, s6, s7⟩ := HST.out
              have ck0 := hcells k hkl
              have HKL := Lib.hid hkl
              have hq : (l[k]).toNat < 256 := (l[k]).toNat_lt
              generalize (l[k]).toNat = q at ck0 hq
              have CK0 := Lib.hid ck0
              have ck : wr.cell? ⟨lb, lo + k, none⟩ = some (.int .u8 q) := (s5.cell (p := ⟨lb, lo + k, none⟩) hlb).trans ck0
              have HN2 := Lib.hid (show nextC p q = ((((p : Int) == 0) && (((q : Int) == 1) || ((q : Int) == 3))) || (((p : Int) == 1) && (((q : Int) == 2) || ((q : Int) == 3)))) from by
                unfold nextC
                rw [show ((p : Int) == 0) = (p == 0) from by rw [Bool.eq_iff_iff]; simp <;> omega, show ((p : Int) == 1) = (p == 1) from by rw [Bool.eq_iff_iff]; simp <;> omega, show ((q : Int) == 1) = (q == 1) from by rw [Bool.eq_iff_iff]; simp <;> omega, show ((q : Int) == 2) = (q == 2) from by rw [Bool.eq_iff_iff]; simp <;> omega, show ((q : Int) == 3) = (q == 3) from by rw [Bool.eq_iff_iff]; simp <;> omega])
              have H2 := Lib.hid s2
              have HS := Lib.hid s1
              have HK : Hid (k ≤ 30) := Lib.hid (by have := H30.out; omega)
              have HNR := Lib.hid (fun lst hl => next_round (q := q) s2 (by have := HK.out; omega) s3 s4 lst hl)
              have HB := Lib.hid s5
              have HI := Lib.hid s7
              have HQ := Lib.hid hq
              have HLB := Lib.hid hlb
              clear s1 s2 s3 s4 s5 s6 s7 ck0 hcells hq HST hlb
              have hpc : (((p : Int) == 0) = true ∧ ((p : Int) == 1) = false) ∨ (((p : Int) == 0) = false ∧ ((p : Int) == 1) = true) ∨ (((p : Int) == 0) = false ∧ ((p : Int) == 1) = false) := by
                simp only [beq_iff_eq, beq_eq_false_iff_ne, ne_eq]; omega
              by_cases hq2 : q = 2
              · subst hq2
                obtain ⟨e1, D2, t1, t2, t3, t4, t5⟩ := HNR.out (allC c.s.length) (.inl ⟨rfl, rfl⟩)
                have HT := Lib.hid (And.intro t1 (And.intro t2 t3))
                rw [HN2.out] at t4 t5
                clear t1 t2 t3 HNR
                rcases hpc with ⟨e0, e1'⟩ | ⟨e0, e1'⟩ | ⟨e0, e1'⟩
                all_goals
                  rw [e0, e1'] at t4 t5
                  simp only [Bool.true_and, Bool.false_and, Bool.or_false, Bool.false_or, Bool.or_true, Bool.true_or, Bool.and_true, Bool.and_false, beq_self_eq_true, if_true, Bool.false_eq_true, if_false, reduceCtorEq] at t4 t5
                  have H5 := Lib.hid t5
                  clear t5
                  go_wp2_with fail
                  refine (turn_pub bs bd bl y c Dk 2 b' c.s.length c' (allC c.s.length) _ wr HS.out HI.out.1 (by rw [allC_length]; omega) HQ.out H2.out.fine (by have := HK.out; push_cast; omega) (H2.out.lt12)).mono ?_; rintro e w2 ⟨rfl, ht2, hd2⟩
                  rw [HT.out.1] at hd2 ⊢
                  have HS2 : Hid (IsStore w2 bs bd bl y c D2) := Lib.hid (HS.out.put ht2 hd2)
                  have HB2 : Hid (Below w.heap.size w w2) := Lib.hid (HB.out.trans (ht2.below HB.out.size (fun k hk e => by have := HG.out; omega)))
                  have HI2 := Lib.hid (HI.out.touch ht2 (fun k hk => hk))
                  have ck2 : w2.cell? ⟨lb, lo + k, none⟩ = some (.int .u8 ((2 : Nat) : Int)) := (HB2.out.cell (p := ⟨lb, lo + k, none⟩) HLB.out).trans CK0.out
                  clear ht2 hd2 ck
                  go_wp2_with fail
                  refine ((phase_pub bs bd bl y c D2 w2 HS2.out).mono (fun e w' hh => by rw [H5.out] at hh; exact hh)).mono ?_; rintro e w3 ⟨rfl, hb3⟩
                  have HS3 := Lib.hid (HS2.out.below hb3)
                  have HB3 := Lib.hid (HB2.out.trans (hb3.mono HB2.out.size))
                  have HI3 := Lib.hid (HI2.out.below hb3)
                  clear hb3
                  have hk30 : k < 31 := by have := HK.out; omega
                  go_wp2_with fail
                  go_roundw
                  case rel => exact ⟨k + 1, _, Nat.succ_le_of_lt HKL.out, by go_num, rfl, Lib.hid ⟨D2, HS3.out, HT.out.2.1, HT.out.2.2, H5.out, HB3.out, HG.out, HI3.out⟩⟩
                  case measure =>
                    have hkM : k < M := Nat.lt_of_lt_of_eq HKL.out HM2.out.symm
                    clear HKL hkl HM2
                    simp [intOf]
                    omega
              · have q2 : ((q : Int) == 2) = false := by rw [beq_eq_false_iff_ne]; omega
                obtain ⟨e1, D2, t1, t2, t3, t4, t5⟩ := HNR.out [] (.inr ⟨hq2, rfl⟩)
                have HT := Lib.hid (And.intro t1 (And.intro t2 t3))
                rw [HN2.out, q2] at t4 t5
                clear t1 t2 t3 HNR hq2
                have hqc : (((q : Int) == 1) = true ∧ ((q : Int) == 3) = false) ∨ (((q : Int) == 1) = false ∧ ((q : Int) == 3) = true) ∨ (((q : Int) == 1) = false ∧ ((q : Int) == 3) = false) := by
                  simp only [beq_iff_eq, beq_eq_false_iff_ne, ne_eq]; omega
                rcases hpc with ⟨e0, e1'⟩ | ⟨e0, e1'⟩ | ⟨e0, e1'⟩
                all_goals
                  rcases hqc with ⟨q1, q3⟩ | ⟨q1, q3⟩ | ⟨q1, q3⟩
                  all_goals
                    rw [e0, e1', q1, q3] at t4 t5
                    simp only [Bool.true_and, Bool.false_and, Bool.or_false, Bool.false_or, Bool.or_true, Bool.true_or, Bool.and_true, Bool.and_false, beq_self_eq_true, if_true, Bool.false_eq_true, if_false, reduceCtorEq] at t4 t5
                    have H5 := Lib.hid t5
                    clear t5
                    go_wp2_with fail
                    refine (turn_pub bs bd bl y c Dk q none 0 0 [] _ wr HS.out (IsI.nil _) (by decide) HQ.out H2.out.fine (by have := HK.out; push_cast; omega) (H2.out.lt12)).mono ?_; rintro e w2 ⟨rfl, ht2, hd2⟩
                    rw [HT.out.1] at hd2 ⊢
                    have HS2 : Hid (IsStore w2 bs bd bl y c D2) := Lib.hid (HS.out.put ht2 hd2)
                    have HB2 : Hid (Below w.heap.size w w2) := Lib.hid (HB.out.trans (ht2.below HB.out.size (fun k hk e => by have := HG.out; omega)))
                    have HI2 := Lib.hid (HI.out.touch ht2 (fun k hk => hk))
                    have ck2 : w2.cell? ⟨lb, lo + k, none⟩ = some (.int .u8 q) := (HB2.out.cell (p := ⟨lb, lo + k, none⟩) HLB.out).trans CK0.out
                    clear ht2 hd2 ck
                    go_wp2_with fail
                    refine ((phase_pub bs bd bl y c D2 w2 HS2.out).mono (fun e w' hh => by rw [H5.out] at hh; exact hh)).mono ?_; rintro e w3 ⟨rfl, hb3⟩
                    have HS3 := Lib.hid (HS2.out.below hb3)
                    have HB3 := Lib.hid (HB2.out.trans (hb3.mono HB2.out.size))
                    have HI3 := Lib.hid (HI2.out.below hb3)
                    clear hb3
                    have hk30 : k < 31 := by have := HK.out; omega
                    go_wp2_with fail
                    go_roundw
                    case rel => exact ⟨k + 1, _, Nat.succ_le_of_lt HKL.out, by go_num, rfl, Lib.hid ⟨D2, HS3.out, HT.out.2.1, HT.out.2.2, H5.out, HB3.out, HG.out, HI3.out⟩⟩
                    case measure =>
                      have hkM : k < M := Nat.lt_of_lt_of_eq HKL.out HM2.out.symm
                      clear HKL hkl HM2
                      simp [intOf]
                      omega
            · have hkk : k = l.length := by omega
              obtain ⟨Dk, s1, s2, s3, s4, s5, s6, s7⟩ := HST.out
              have HB := Lib.hid s5
              clear s1 s2 s3 s4 s5 s6 s7
              subst hkk
              go_wp2_with fail
              refine (lives_any wr).mono ?_; rintro e w2 ⟨rfl, hb2⟩
              have HB2 := Lib.hid (HB.out.trans (hb2.mono HB.out.size))
              clear hb2
              go_wp2_with fail
              go_ret
              exact ⟨rfl, HB2.out⟩

end Go.Proofs.YtggjhbpggddjmaaGreat
