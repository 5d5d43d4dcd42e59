/- The statement SessionsPlay: what it returns; conditions: those typed. -/
import Derived.Test.YthadgnaaipdpaaaGreatDoorSSPlayS
namespace Go.Proofs.YthadgnaaipdpaaaGreatDoor
open Go.RowKit
set_option linter.unusedVariables false
set_option linter.unusedSimpArgs false
set_option maxRecDepth 100000

set_option maxHeartbeats 16000000 in
theorem sessionsPlay_any (x : CfgA) (cf : CfgD) (a : Option Addr) (m c : Nat) (L : List ActT) (w : World) (h : IsActT w a m c L) (hcf : IsCfg w 0 x cf) (h1 : L.length ≤ 1048576) (h2 : ∀ x ∈ L, x.sec.length ≤ 1048576 ∧ x.rep.length ≤ 1048576) (h3 : CfgSm cf 1048576) :
    Calls Tryz.prog 3 #[.agg (x.cells cf.t).toArray, .slice a m c] w fun e w' => e = .returned (.bool true) ∧ Below w.heap.size w w' := by
  have H0 := Lib.hid h
  have H2 := Lib.hid h2
  have H3 := Lib.hid h3
  obtain rfl := h.1
  obtain ⟨ra, rn, rc, sa, sn, sc, aa, an, ac, ua, un, uc⟩ := x
  have sl := hcf.s.1
  have al := hcf.a.1
  have ul := hcf.u.1
  have hscc := hcf.s.2.1
  have hscm := hcf.s.2.2.1
  dsimp only at sl al ul hscc hscm
  subst sl
  subst al
  subst ul
  have hs3 : cf.s.length ≤ 1048576 := h3.s
  have hs4 : cf.a.length ≤ 1048576 := h3.a
  have hs5 : cf.u.length ≤ 1048576 := h3.u
  have hqa : ((cf.a.length : Int)).tdiv 10 = ((cf.a.length / 10 : Nat) : Int) := by rw [Int.tdiv_eq_ediv_of_nonneg (by omega)]; omega
  have hqu : ((cf.u.length : Int)).tdiv 10 = ((cf.u.length / 10 : Nat) : Int) := by rw [Int.tdiv_eq_ediv_of_nonneg (by omega)]; omega
  have hb0 : Below w.heap.size w (w.alloc (.cells #[.slice ra rn rc, .slice sa cf.s.length sc, .slice aa cf.a.length ac, .slice ua cf.u.length uc, .int .u64 cf.t.toNat] 27)) := (Below.refl _ _).alloc (Nat.le_refl _) _
  have HB0 := Lib.hid hb0
  have HC0 : Hid (BxC (w.alloc (.cells #[.slice ra rn rc, .slice sa cf.s.length sc, .slice aa cf.a.length ac, .slice ua cf.u.length uc, .int .u64 cf.t.toNat] 27)) w.heap.size ⟨ra, rn, rc, sa, cf.s.length, sc, aa, cf.a.length, ac, ua, cf.u.length, uc⟩ cf.t) := Lib.hid (heap_new w _)
  have HI0 := Lib.hid (hcf.below hb0)
  have HA0 := Lib.hid (H0.out.below hb0)
  clear h h2 hb0 hcf h3
  unfold CfgA.cells
  dsimp only
  go_enter Tryz.func3, Tryz.ntmps3
  go_wp2_with fail
  generalize w.alloc (.cells #[.slice ra rn rc, .slice sa cf.s.length sc, .slice aa cf.a.length ac, .slice ua cf.u.length uc, .int .u64 cf.t.toNat] 27) = w0 at HB0 HC0 HI0 HA0 ⊢
  obtain ⟨bc, hbc⟩ : ∃ bc, bc = w.heap.size := ⟨_, rfl⟩
  have HBC : Hid (w.heap.size ≤ bc) := Lib.hid (by omega)
  rw [← hbc] at HC0 ⊢
  clear hbc
  obtain ⟨v1, v2, v3⟩ := HC0.out.get
  dsimp only at v1 v2 v3
  obtain ⟨N0, hN0⟩ : ∃ N0, N0 = cf.s.length + cf.a.length / 10 + cf.u.length / 10 := ⟨_, rfl⟩
  have HN0 := Lib.hid hN0
  have hN1 : N0 ≤ 2000000 := by omega
  obtain ⟨M, hM⟩ : ∃ M, M = cf.s.length := ⟨_, rfl⟩
  have HM := Lib.hid hM
  have hMM : M ≤ 1048576 := by omega
  have HQ := Lib.hid (show ((cf.s.length : Int) + ((cf.a.length / 10 : Nat) : Int) + ((cf.u.length / 10 : Nat) : Int)) = (N0 : Int) by omega)
  clear hM hqa hqu hN0
  go_loopw [5, 6] (fun n i wr => ∃ k g : Nat, k ≤ M ∧ i = .int .i64 k ∧ n = .int .i64 g ∧ Hid (g = N0 + lsum (cf.s.take k)) ∧ wr = w0) (fun n i _ => M - (intOf i).toNat)
  case atStart => exact ⟨0, N0, Nat.zero_le _, rfl, congrArg (Value.int .i64) HQ.out, Lib.hid rfl, rfl⟩
  case round =>
    obtain ⟨k, g, hk, rfl, rfl, HG, rfl⟩ := hrel
    have hg : g ≤ 300000000000 := by
      have := lsum_le (cf.s.take k) (fun x hx => H3.out.e x (List.mem_of_mem_take hx))
      have := HG.out
      have : (cf.s.take k).length ≤ 1048576 := by simp; omega
      omega
    by_cases hlt : k < cf.s.length
    · as_aux_lemma =>
        obtain ⟨_, _, _, h4 | ⟨sb, so, rfl, _, hsb, hcell⟩⟩ := HI0.out.s
        · rw [h4] at hlt; simp at hlt
        obtain ⟨u, hu1, a1, n1, c1, rfl, hr1, _⟩ := hcell k hlt
        obtain rfl := hr1.1
        have hn1 := H3.out.e _ (List.getElem_mem hlt)
        have hq : ((cf.s[k].length : Int)).tdiv 10 = ((cf.s[k].length / 10 : Nat) : Int) := by rw [Int.tdiv_eq_ediv_of_nonneg (by omega)]; omega
        have hlt2 : k < M := by have := HM.out; omega
        have HLK := Lib.hid hlt
        clear hcell hr1
        go_wp2
        go_roundw
        case rel => exact ⟨k + 1, g + cf.s[k].length / 10, by omega, by go_num, congrArg (Value.int .i64) (by omega), Lib.hid (by have e1 := HG.out; have e2 := lsum_take cf.s k HLK.out; omega), trivial⟩
        case measure => simp [intOf]; omega
    · have hke : k = M := by have := HM.out; omega
      have HGG : Hid (g = N0 + lsum cf.s) := Lib.hid (by rw [HG.out, List.take_of_length_le (by omega)])
      have hkk : ¬ k < cf.s.length := hlt
      clear HG hlt
      subst hke
      have hgb : g ≤ 300000000000 := hg
      obtain ⟨w0, rfl⟩ : ∃ w0 : World, w0 = wr := ⟨_, rfl⟩
      have HI1 := HI0
      clear HI0
      go_wp2_with fail
      have HKK := Lib.hid hkk
      clear hkk
      obtain ⟨M2, hM2⟩ : ∃ M2, M2 = L.length := ⟨_, rfl⟩
      have HM2 := Lib.hid hM2
      have hM22 : M2 ≤ 1048576 := by omega
      clear hM2
      go_loopw [5, 7] (fun n i wr => ∃ k2 g2 j : Nat, k2 ≤ M2 ∧ i = .int .i64 k2 ∧ n = .int .i64 g2 ∧ Hid (g2 = g + tsum (L.take k2)) ∧ wr = w0.drewN j) (fun n i _ => M2 - (intOf i).toNat)
      case atStart => exact ⟨0, g, 0, Nat.zero_le _, rfl, rfl, Lib.hid rfl, rfl⟩
      case round =>
        obtain ⟨k2, g2, j, hk2, rfl, rfl, HG2, rfl⟩ := hrel
        have hg2 : g2 ≤ 600000000000 := by
          have := tsum_le (L.take k2) (fun x hx => H2.out x (List.mem_of_mem_take hx))
          have := HG2.out
          have : (L.take k2).length ≤ 1048576 := by simp; omega
          omega
        by_cases hlt2 : k2 < L.length
        · as_aux_lemma =>
            obtain ⟨_, _, _, h4 | ⟨b, off, rfl, hblt, hcell⟩⟩ := HA0.out
            · rw [h4] at hlt2; simp at hlt2
            obtain ⟨hd16, y, hrg, hisa⟩ := hcell k2 hlt2
            have c2 : w0.cell? ⟨b, off + k2 * 23 + 2, none⟩ = some (.slice y.sa y.sn y.sc) := hrg 2 _ rfl
            have c22 : w0.cell? ⟨b, off + k2 * 23 + 22, none⟩ = some (.slice y.ra y.rn y.rc) := hrg 22 _ (L[k2].tail y hd16 3)
            have n1 := hisa.s.1
            have n2 := hisa.r.1
            rw [n1] at c2
            rw [n2] at c22
            obtain ⟨z1, z2⟩ := H2.out _ (List.getElem_mem hlt2)
            have hq1 : ((L[k2].sec.length : Int)).tdiv 20 = ((L[k2].sec.length / 20 : Nat) : Int) := by rw [Int.tdiv_eq_ediv_of_nonneg (by omega)]; omega
            have hq2 : ((L[k2].rep.length : Int)).tdiv 20 = ((L[k2].rep.length / 20 : Nat) : Int) := by rw [Int.tdiv_eq_ediv_of_nonneg (by omega)]; omega
            have hlt3 : k2 < M2 := by have := HM2.out; omega
            have HTK := Lib.hid (tsum_take L k2 hlt2)
            clear hcell hrg hisa n1 n2
            generalize L[k2].sec.length = n1 at c2 z1 hq1 HTK
            generalize L[k2].rep.length = n2 at c22 z2 hq2 HTK
            go_wp2
            go_quiet (fail)
            go_wp2
            go_roundw
            case rel => exact ⟨k2 + 1, g2 + 1 + n1 / 20 + n2 / 20, _, by omega, by go_num, congrArg (Value.int .i64) (by omega), Lib.hid (by have e1 := HG2.out; have e2 := HTK.out; omega), rfl⟩
            case measure => simp [intOf]; omega
        · have hke : k2 = M2 := by have := HM2.out; omega
          have HGG2 : Hid (g2 = g + tsum L) := Lib.hid (by rw [HG2.out, List.take_of_length_le (by omega)])
          have hkk2 : ¬ k2 < L.length := hlt2
          have hbd := below_drewN (Below.refl w0.heap.size w0) j
          have HB1 := Lib.hid (HB0.out.trans (hbd.mono HB0.out.size))
          have HC1 := Lib.hid (HC0.out.below hbd)
          have HI2 := Lib.hid (HI1.out.below hbd)
          have HA1 := Lib.hid (HA0.out.below hbd)
          obtain ⟨w1, hw1⟩ : ∃ w1, w1 = w0.drewN j := ⟨_, rfl⟩
          rw [← hw1] at HB1 HC1 HI2 HA1 ⊢
          clear HG2 hbd hlt2 hw1 HB0 HC0 HI1 HA0 v1 v2 v3
          subst hke
          by_cases hbig : 500 < g2
          · go_wp2_with fail
            refine (lives_any _).mono ?_; rintro e w' ⟨rfl, hb⟩
            have HBE := Lib.hid (HB1.out.trans (hb.mono HB1.out.size))
            clear hb
            go_wp2
            go_ret
            exact ⟨rfl, HBE.out⟩
          have hn5 : k2 ≤ 500 ∧ cf.s.length ≤ 500 := by
            have q1 := tsum_len L
            have q2 := HM2.out
            have q3 := HGG2.out
            have q4 := HGG.out
            have q5 := HN0.out
            omega
          have HL5 : Hid (∀ x ∈ L, x.sec.length ≤ 20000 ∧ x.rep.length ≤ 20000) := Lib.hid (fun x hx => by
            have q1 := tsum_mem L x hx
            have q3 := HGG2.out
            omega)
          have HS5 : Hid (∀ l ∈ cf.s, l.length ≤ 20000) := Lib.hid (fun l hl => by
            have q1 := lsum_mem cf.s l hl
            have q3 := HGG2.out
            have q4 := HGG.out
            omega)
          have HAU5 : Hid (cf.a.length ≤ 20000 ∧ cf.u.length ≤ 20000) := Lib.hid (by
            have q3 := HGG2.out
            have q4 := HGG.out
            have q5 := HN0.out
            omega)
          obtain ⟨hk5, hs5'⟩ := hn5
          clear HGG HGG2 HN0 hg2 hgb hg hN1
          go_wp2_with (first
            | (refine wpList_load_mid rfl 27 (.tmp 2) rfl bc 0 rfl (CfgA.cells ⟨ra, rn, rc, sa, cf.s.length, sc, aa, cf.a.length, ac, ua, cf.u.length, uc⟩ cf.t) _ HC1.out.row Tryz.underlying27 rfl infoCfg5 ?_)
            | fail)
          refine (twinCfg_any _ cf 0 w1 HI2.out H3.out).mono ?_
          rintro e w2 ⟨y, rfl, hb2, ht2⟩
          have HT2 := Lib.hid ht2
          have HB2 := Lib.hid (HB1.out.trans (hb2.mono HB1.out.size))
          have HC2 := Lib.hid (HC1.out.below hb2)
          have HI3 := Lib.hid (HI2.out.below hb2)
          have HA2 := Lib.hid (HA1.out.below hb2)
          have HTL := Lib.hid (HT2.out.lower HB1.out.size)
          clear ht2 hb2 HB1 HC1 HI2 HA1 HT2
          have hal : Below w2.heap.size w2 (w2.alloc (.cells (CfgA.cells (y.adr cf) cf.t).toArray 27)) := (Below.refl _ _).alloc (Nat.le_refl _) _
          have HX8 : Hid (BxC (w2.alloc (.cells (CfgA.cells (y.adr cf) cf.t).toArray 27)) w2.heap.size (y.adr cf) cf.t) := Lib.hid (heap_new w2 _)
          have HB3 := Lib.hid (HB2.out.trans (hal.mono HB2.out.size))
          have HC3 := Lib.hid (HC2.out.below hal)
          have HI4 := Lib.hid (HI3.out.below hal)
          have HA3 := Lib.hid (HA2.out.below hal)
          have HTL3 := Lib.hid (HTL.out.below hal)
          have HON := Lib.hid (cfg_one (y.adr cf) cf.t)
          clear hal HB2 HC2 HI3 HA2 HTL
          have hk8 : (cf.s.length < 1 ∨ 8 < cf.s.length) ∨ (1 ≤ cf.s.length ∧ cf.s.length ≤ 8) := by omega
          have HK8 := Lib.hid hk8
          clear hk8
          go_wp2_with (first
            | (refine wpList_declare rfl rfl 27 rfl (.tmp 8) (.tmp 84) rfl _ zeroCfg5 (CfgA.cells (y.adr cf) cf.t).toArray rfl (by rw [infoCfg5]; rfl) rfl rfl (by simpa using HON.out) ?_)
            | (refine wpList_load_mid rfl 27 (.tmp 8) rfl w2.heap.size 0 rfl (CfgA.cells (y.adr cf) cf.t) _ HX8.out.row Tryz.underlying27 rfl infoCfg5 ?_)
            | fail)
          generalize w2.alloc (.cells (CfgA.cells (y.adr cf) cf.t).toArray 27) = w3 at HX8 HB3 HC3 HI4 HA3 HTL3 ⊢
          obtain ⟨b8, hb8⟩ : ∃ b8, b8 = w2.heap.size := ⟨_, rfl⟩
          rw [← hb8] at HX8 ⊢
          clear hb8
          rcases HK8.out with hbad | ⟨hg1, hg8⟩
          · as_aux_lemma =>
              refine (sn_bad (y.adr cf) cf.t w3 hbad).mono ?_; rintro e w4 ⟨rfl, hb4⟩
              have HC4 := Lib.hid (HC3.out.below hb4)
              have HI5 := Lib.hid (HI4.out.below hb4)
              have HT5 := Lib.hid (HTL3.out.below hb4)
              have HX4 := Lib.hid (HX8.out.below hb4)
              have HB4 := Lib.hid (HB3.out.trans (hb4.mono HB3.out.size))
              clear hb4 HB3 HC3 HI4 HA3 HTL3 HX8
              go_wp2_with (first
                | (refine wpList_load_mid rfl 27 (.tmp 2) rfl bc 0 rfl (CfgA.cells ⟨ra, rn, rc, sa, cf.s.length, sc, aa, cf.a.length, ac, ua, cf.u.length, uc⟩ cf.t) _ HC4.out.row Tryz.underlying27 rfl infoCfg5 ?_)
                | fail)
              refine (rsn_bad _ cf.t w4 hbad).mono ?_; rintro e w5 ⟨rfl, hb5⟩
              have HC5 := Lib.hid (HC4.out.below hb5)
              have HI6 := Lib.hid (HI5.out.below hb5)
              have HT6 := Lib.hid (HT5.out.below hb5)
              have HX5 := Lib.hid (HX4.out.below hb5)
              have HB5 := Lib.hid (HB4.out.trans (hb5.mono HB4.out.size))
              clear hb5 HB4 HC4 HI5 HT5 HX4
              go_wp2_with (first
                | (refine wpList_load_wanted (by rfl) 27 (.tmp 8) rfl b8 0 rfl (CfgA.cells (y.adr cf) cf.t) _ HX5.out.row Tryz.underlying27 rfl infoCfg5 ?_)
                | (refine wpList_load_wanted (by rfl) 27 (.tmp 2) rfl bc 0 rfl (CfgA.cells ⟨ra, rn, rc, sa, cf.s.length, sc, aa, cf.a.length, ac, ua, cf.u.length, uc⟩ cf.t) _ HC5.out.row Tryz.underlying27 rfl infoCfg5 ?_)
                | fail)
              refine (leftCfg_any ⟨ra, rn, rc, sa, cf.s.length, sc, aa, cf.a.length, ac, ua, cf.u.length, uc⟩ y cf w.heap.size 0 w5 HI6.out HT6.out H3.out).mono ?_; rintro e w6 ⟨rfl, hb6⟩
              have HB6 := Lib.hid (HB5.out.trans (hb6.mono HB5.out.size))
              clear hb6 HB5 HC5 HI6 HT6 HX5
              go_wp2_with fail
              refine (lives_any _).mono ?_; rintro e w7 ⟨rfl, hb7⟩
              have HBE := Lib.hid (HB6.out.trans (hb7.mono HB6.out.size))
              clear hb7
              go_wp2
              go_ret
              exact ⟨rfl, HBE.out⟩
          · refine (sn_good y cf w.heap.size w3 HTL3.out H3.out hg1 hg8).mono ?_; rintro e w4 ⟨bt, b1, b2, b3, rfl, hb4, htb4, k1, k2', k3, k4⟩
            have HC4 := Lib.hid (HC3.out.below hb4)
            have HI5 := Lib.hid (HI4.out.below hb4)
            have HT5 := Lib.hid (HTL3.out.below hb4)
            have HX4 := Lib.hid (HX8.out.below hb4)
            have HA4 := Lib.hid (HA3.out.below hb4)
            have HTB4 := Lib.hid htb4
            have HGE := Lib.hid (show w.heap.size ≤ bt ∧ w.heap.size ≤ b1 ∧ w.heap.size ≤ b2 ∧ w.heap.size ≤ b3 by have := HB3.out.size; omega)
            have HB4 := Lib.hid (HB3.out.trans (hb4.mono HB3.out.size))
            clear hb4 HB3 HC3 HI4 HA3 HTL3 HX8 htb4 k1 k2' k3 k4
            go_wp2_with (first
              | (refine wpList_load_mid rfl 27 (.tmp 2) rfl bc 0 rfl (CfgA.cells ⟨ra, rn, rc, sa, cf.s.length, sc, aa, cf.a.length, ac, ua, cf.u.length, uc⟩ cf.t) _ HC4.out.row Tryz.underlying27 rfl infoCfg5 ?_)
              | fail)
            refine (rsn_good ⟨ra, rn, rc, sa, cf.s.length, sc, aa, cf.a.length, ac, ua, cf.u.length, uc⟩ cf 0 w4 HI5.out hg1 hg8 HS5.out HAU5.out.1 HAU5.out.2).mono ?_; rintro e w5 ⟨rt, ro, rc', L0, rfl, hb5, hrt5, hcor⟩
            have HC5 := Lib.hid (HC4.out.below hb5)
            have HI6 := Lib.hid (HI5.out.below hb5)
            have HT6 := Lib.hid (HT5.out.below hb5)
            have HX5 := Lib.hid (HX4.out.below hb5)
            have HA5 := Lib.hid (HA4.out.below hb5)
            have HTB5 := Lib.hid (HTB4.out.below hb5)
            have HRT5 := Lib.hid (hrt5.lower HB4.out.size)
            have HCOR := Lib.hid hcor
            have HB5 := Lib.hid (HB4.out.trans (hb5.mono HB4.out.size))
            clear hb5 hrt5 hcor HB4 HC4 HI5 HT5 HX4 HA4 HTB4
            go_wp2_with (first
              | (refine wpList_load_wanted (by rfl) 27 (.tmp 8) rfl b8 0 rfl (CfgA.cells (y.adr cf) cf.t) _ HX5.out.row Tryz.underlying27 rfl infoCfg5 ?_)
              | (refine wpList_load_wanted (by rfl) 27 (.tmp 2) rfl bc 0 rfl (CfgA.cells ⟨ra, rn, rc, sa, cf.s.length, sc, aa, cf.a.length, ac, ua, cf.u.length, uc⟩ cf.t) _ HC5.out.row Tryz.underlying27 rfl infoCfg5 ?_)
              | fail)
            refine (leftCfg_any ⟨ra, rn, rc, sa, cf.s.length, sc, aa, cf.a.length, ac, ua, cf.u.length, uc⟩ y cf w.heap.size 0 w5 HI6.out HT6.out H3.out).mono ?_; rintro e w6 ⟨rfl, hb6⟩
            have HT7 := Lib.hid (HT6.out.below hb6)
            have HX6 := Lib.hid (HX5.out.below hb6)
            have HA6 := Lib.hid (HA5.out.below hb6)
            have HTB6 := Lib.hid (HTB5.out.below hb6)
            have HRT6 := Lib.hid (HRT5.out.below hb6)
            have HB6 := Lib.hid (HB5.out.trans (hb6.mono HB5.out.size))
            clear hb6 HB5 HC5 HI6 HT6 HX5 HA5 HTB5 HRT5
            have hal := (Below.refl w6.heap.size w6).alloc (Nat.le_refl _) (.cells (bookC 0 (fun _ => .slice none 0 0)) 54 (0, 0))
            have HT8 := Lib.hid (HT7.out.below hal)
            have HX7 := Lib.hid (HX6.out.below hal)
            have HA7 := Lib.hid (HA6.out.below hal)
            have HTB7 := Lib.hid (HTB6.out.below hal)
            have HRT7 := Lib.hid (HRT6.out.below hal)
            have HB7 := Lib.hid (HB6.out.trans (hal.mono HB6.out.size))
            have HK7 := Lib.hid (BkP.start w6 (fun _ => False) w.heap.size HB6.out.size)
            clear hal HB6 HT7 HX6 HA6 HTB6 HRT6
            go_wp2_with (first
              | (refine wpList_alloc_any rfl 54 rfl _ zeroBook4 _ rfl ?_)
              | (refine wpList_load_mid rfl 27 (.tmp 8) rfl b8 0 rfl (CfgA.cells (y.adr cf) cf.t) _ HX7.out.row Tryz.underlying27 rfl infoCfg5 ?_)
              | fail)
            generalize w6.alloc (.cells (bookC 0 (fun _ => .slice none 0 0)) 54) = w7 at HT8 HX7 HA7 HTB7 HRT7 HB7 HK7 ⊢
            obtain ⟨bk, hbk⟩ : ∃ bk, bk = w6.heap.size := ⟨_, rfl⟩
            rw [← hbk] at HK7 ⊢
            clear hbk
            refine (cfg_keep w7 w.heap.size bk y cf HK7.out HT8.out H3.out hg8).mono ?_; rintro e w8 ⟨rfl, ht8, hk8'⟩
            have HS : Hid (SSt w w8 bt b1 b2 b3 rt ro rc' bk (newT cf.s cf.a cf.u) L0 cf.s.length 100) := Lib.hid ⟨HB7.out.trans (ht8.below HB7.out.size (fun k hk e => by have := e.1; omega)), HTB7.out.other ht8 (bkS_noTbl _ _), HGE.out, HRT7.out.touch ht8 (bkS_noRT _ _), HCOR.out, hk8'⟩
            clear ht8 hk8' HT8 HX7 HA7 HTB7 HRT7 HB7 HK7 HCOR HGE
            generalize newT cf.s cf.a cf.u = T0 at HS
            generalize hcn : cf.s.length = n0 at HS
            clear hcn
            obtain ⟨M3, hM3⟩ : ∃ M3, M3 = L.length := ⟨_, rfl⟩
            have HM3 := Lib.hid hM3
            have hM35 : M3 ≤ 500 := by have := HM2.out; omega
            clear hM3
            go_wp2_with fail
            go_loopw [9, 11, 14] (fun d r i wr => ∃ (j bt b1 b2 b3 rt rc n : Nat) (ro : Option Addr) (T : Tbl) (Lo : List One), j ≤ M3 ∧ d = .pointer (some ⟨bt, 0, none⟩) ∧ r = .pointer (some ⟨rt, 0, none⟩) ∧ i = .int .i64 j ∧ Hid (SSt w wr bt b1 b2 b3 rt ro rc bk T Lo n (100 + j))) (fun d r i _ => M3 - (intOf i).toNat)
            case atStart => exact ⟨0, bt, b1, b2, b3, rt, rc', n0, ro, T0, L0, Nat.zero_le _, rfl, rfl, rfl, HS⟩
            case round =>
              clear HS
              obtain ⟨j, bt, b1, b2, b3, rt, rc', n, ro, T, Lo, hj, rfl, rfl, rfl, HS⟩ := hrel
              by_cases hlt : j < M3
              · have hjL : j < L.length := by rw [← HM3.out]; exact hlt
                obtain ⟨_, _, _, h4 | ⟨b, off, rfl, hblt, hcell⟩⟩ := H0.out
                · rw [h4] at hjL; simp at hjL
                obtain ⟨hd16, y0, hrg, hisa⟩ := hcell j hjL
                have RA := Lib.hid (range_low hrg HS.out.below hblt)
                obtain ⟨hsl, hrl⟩ := HL5.out _ (List.getElem_mem hjL)
                obtain ⟨xx, hxx⟩ : ∃ xx, xx = L[j] := ⟨_, rfl⟩
                rw [← hxx] at RA hsl hrl hisa hd16
                clear hcell hrg hxx
                obtain ⟨kd8, who, sec, d, tk, sq, ls, rep⟩ := xx
                obtain ⟨qa, qn, qc, pa, pn, pc⟩ := y0
                have e1 := hisa.s.1
                have e2 := hisa.r.1
                dsimp only at e1 e2 hsl hrl hd16
                subst e1
                subst e2
                have HIA := Lib.hid hisa
                have HD16 := Lib.hid hd16
                have HLEN := Lib.hid (ActT.cells_len ⟨kd8, who, sec, d, tk, sq, ls, rep⟩ ⟨qa, sec.length, qc, pa, rep.length, pc⟩ hd16)
                have HONE := Lib.hid (ActT.cells_one ⟨kd8, who, sec, d, tk, sq, ls, rep⟩ ⟨qa, sec.length, qc, pa, rep.length, pc⟩)
                have hbx : Below wr.heap.size wr (wr.alloc (.cells (ActT.cells ⟨kd8, who, sec, d, tk, sq, ls, rep⟩ ⟨qa, sec.length, qc, pa, rep.length, pc⟩).toArray 33)) := (Below.refl _ _).alloc (Nat.le_refl _) _
                have HX1 : Hid (BxT (wr.alloc (.cells (ActT.cells ⟨kd8, who, sec, d, tk, sq, ls, rep⟩ ⟨qa, sec.length, qc, pa, rep.length, pc⟩).toArray 33)) wr.heap.size ⟨kd8, who, sec, d, tk, sq, ls, rep⟩ ⟨qa, sec.length, qc, pa, rep.length, pc⟩) := Lib.hid (heap_new wr _)
                have HS1 := Lib.hid (HS.out.after hbx)
                clear hisa hd16 hbx HS
                go_wp2_with (first
                  | (refine wpList_load_mid rfl 33 (.tmp 124) rfl b (off + j * 23) rfl (ActT.cells ⟨kd8, who, sec, d, tk, sq, ls, rep⟩ ⟨qa, sec.length, qc, pa, rep.length, pc⟩) _ RA.out Tryz.underlying33 rfl (by rw [HLEN.out]; exact infoActT) ?_)
                  | (refine wpList_declare rfl rfl 33 rfl (.tmp 15) (.tmp 125) rfl _ zeroActT (ActT.cells ⟨kd8, who, sec, d, tk, sq, ls, rep⟩ ⟨qa, sec.length, qc, pa, rep.length, pc⟩).toArray (by simp [HLEN.out, Value.cells]) (by rw [infoActT]; simp [HLEN.out]) rfl rfl (by simpa using HONE.out) ?_
                     generalize wr.alloc (.cells (ActT.cells ⟨kd8, who, sec, d, tk, sq, ls, rep⟩ ⟨qa, sec.length, qc, pa, rep.length, pc⟩).toArray 33) = w1 at HX1 HS1 ⊢
                     obtain ⟨hx, hhx⟩ : ∃ hx, hx = wr.heap.size := ⟨_, rfl⟩
                     rw [← hhx] at HX1 ⊢
                     clear hhx
                     obtain ⟨v0, v1, v2, v3, v4, v5, v6⟩ := HX1.out.get HD16.out)
                  | fail)
                refine (twinB_any pa rep.length pc rep w1 (by omega) (HIA.out.r.below HS1.out.below)).mono ?_
                rintro e w2 ⟨rfl, hb2, htw⟩
                have HBK := Lib.hid ((HS1.out.book.below hb2))
                have HTG : Hid (w.heap.size ≤ w1.heap.size) := Lib.hid HS1.out.below.size
                have HS2 := Lib.hid (HS1.out.after hb2)
                have HX2 := Lib.hid (HX1.out.below hb2)
                have HT2 := Lib.hid htw
                obtain ⟨tg, htg⟩ : ∃ tg, tg = w1.heap.size := ⟨_, rfl⟩
                rw [← htg] at HBK HTG HT2 ⊢
                clear hb2 htw htg HX1 HS1 v0 v1 v2 v3 v4 v5 v6 RA HLEN HONE
                obtain ⟨v0, v1, v2, v3, v4, v5, v6⟩ := HX2.out.get HD16.out
                dsimp only at v0 v1 v2 v3 v4 v5 v6
                have hj6 : j + 1 ≤ M3 := hlt
                obtain ⟨f8, hf8⟩ : ∃ f8 : Nat, f8 = kd8.toNat % 8 := ⟨_, rfl⟩
                have hf9 : f8 < 8 := by omega
                have m1 : (kd8.toNat : Int) % 8 = (f8 : Int) := by omega
                have m2 : ((kd8.toNat : Int)).tmod 8 = (f8 : Int) := by rw [Int.tmod_eq_emod_of_nonneg (by omega)]; omega
                have m3 : IntKind.u8.wrap (f8 : Int) = (f8 : Int) := by rw [IntKind.wrap_u8']; omega
                clear hf8
                generalize kd8.toNat = kd at v0 m1 m2
                have hcases : (f8 = 0 ∨ f8 = 1) ∨ f8 = 2 ∨ (f8 = 3 ∨ f8 = 4) ∨ (f8 = 5 ∨ f8 = 6) ∨ f8 = 7 := by omega
                clear hf9
                rcases hcases with hc | rfl | hc | hc | rfl
                -- login
                · rcases hc with rfl | rfl
                  all_goals
                    by_cases hkn : T.knows who sec
                    · as_aux_lemma =>
                        have HKN := Lib.hid hkn
                        clear hkn
                        go_wp2_with (first
                          | (refine wpList_load_mid rfl 30 (.tmp 159) rfl hx 3 rfl (bcells d) _ HX2.out.draw Tryz.underlying30 rfl (by rw [bcells_length, HD16.out]; exact infoDraw) ?_)
                          | fail)
                        refine (lg_yes bt b1 b2 b3 T who qa sec.length qc sec d w2 HS2.out.tbl (HIA.out.s.below HS2.out.below) HKN.out HD16.out).mono ?_; rintro e w3 ⟨rfl, ht3, htb3⟩
                        have HX3 := Lib.hid (HX2.out.touch ht3 ((HS2.out.mapS (.inr (.inl rfl))).cells HX2.out))
                        have HR3 := Lib.hid (HS2.out.ref1 (.inr (.inl rfl)) ht3)
                        have HTT3 := Lib.hid ht3
                        have HTB3 := Lib.hid htb3
                        clear ht3 htb3 v0 v1 v2 v3 v4 v5 v6
                        obtain ⟨-, v1, v2, -, -, -, -⟩ := HX3.out.get HD16.out
                        dsimp only at v1 v2
                        go_wp2_with (first
                          | (refine wpList_load_mid rfl 30 (.tmp 170) rfl hx 3 rfl (bcells d) _ HX3.out.draw Tryz.underlying30 rfl (by rw [bcells_length, HD16.out]; exact infoDraw) ?_)
                          | fail)
                        refine (rlg_yes w.heap.size rt ro rc' Lo T n who qa sec.length qc sec d w3 HR3.out.1 HS2.out.cor (HIA.out.s.below HR3.out.2) HKN.out HD16.out).mono ?_; rintro e w4 ⟨rfl, ht4, L', hr4, hc4⟩
                        have HS4 := Lib.hid ((HS2.out.both (.inr (.inl rfl)) HTT3.out HTB3.out ht4 hr4 hc4).more (show 100 + j ≤ 100 + (j + 1) by omega))
                        clear ht4 hr4 hc4 HTB3 HTT3 HR3 HX3 HX2 HS2 HBK HT2 HKN v1 v2
                        go_wp2_with fail
                        go_roundw
                        case rel => exact ⟨j + 1, _, _, _, _, _, _, _, _, _, _, hj6, rfl, rfl, by go_num, HS4⟩
                        case measure => simp [intOf]; omega
                    · as_aux_lemma =>
                        have HKN := Lib.hid hkn
                        clear hkn
                        go_wp2_with (first
                          | (refine wpList_load_mid rfl 30 (.tmp 159) rfl hx 3 rfl (bcells d) _ HX2.out.draw Tryz.underlying30 rfl (by rw [bcells_length, HD16.out]; exact infoDraw) ?_)
                          | fail)
                        refine (lg_no bt b1 b2 b3 T who qa sec.length qc sec d w2 HS2.out.tbl (HIA.out.s.below HS2.out.below) HKN.out).mono ?_; rintro e w3 ⟨rfl, hb3⟩
                        have HX3 := Lib.hid (HX2.out.below hb3)
                        have HS3 := Lib.hid (HS2.out.after hb3)
                        clear hb3 v0 v1 v2 v3 v4 v5 v6
                        obtain ⟨-, v1, v2, -, -, -, -⟩ := HX3.out.get HD16.out
                        dsimp only at v1 v2
                        go_wp2_with (first
                          | (refine wpList_load_mid rfl 30 (.tmp 170) rfl hx 3 rfl (bcells d) _ HX3.out.draw Tryz.underlying30 rfl (by rw [bcells_length, HD16.out]; exact infoDraw) ?_)
                          | fail)
                        refine (rlg_no w.heap.size rt ro rc' Lo T n who qa sec.length qc sec d w3 HS3.out.ref HS3.out.cor (HIA.out.s.below HS3.out.below) HKN.out).mono ?_; rintro e w4 ⟨rfl, hb4⟩
                        have HS4 := Lib.hid ((HS3.out.after hb4).more (show 100 + j ≤ 100 + (j + 1) by omega))
                        clear hb4 HS3 HX3 HX2 HS2 HBK HT2 HKN v1 v2
                        go_wp2_with fail
                        go_roundw
                        case rel => exact ⟨j + 1, _, _, _, _, _, _, _, _, _, _, hj6, rfl, rfl, by go_num, HS4⟩
                        case measure => simp [intOf]; omega
                -- who
                · as_aux_lemma =>
                    go_wp2_with fail
                    go_quiet ((first
                      | (go_at_call 13; exact Calls.quiet_of_same (who_q bt b1 b2 b3 T who tk _ (HS2.out.tbl.below (below_drewN (Below.refl _ _) _))))
                      | (go_at_call 14; exact Calls.quiet_of_same (rwho_q w.heap.size rt ro rc' Lo T n who tk _ (HS2.out.ref.below (below_drewN (Below.refl _ _) _)) HS2.out.cor))))
                    have HS4 := Lib.hid ((HS2.out.after (below_drewN (Below.refl _ w2) nq)).more (show 100 + j ≤ 100 + (j + 1) by omega))
                    clear HX2 HS2 HBK HT2 v0 v1 v2 v3 v4 v5 v6
                    go_wp2_with fail
                    go_roundw
                    case rel => exact ⟨j + 1, _, _, _, _, _, _, _, _, _, _, hj6, rfl, rfl, by go_num, HS4⟩
                    case measure => simp [intOf]; omega
                -- seq
                · rcases hc with rfl | rfl
                  all_goals
                    as_aux_lemma =>
                      go_wp2_with fail
                      refine (seq_any bt b1 b2 b3 T who sq ls w2 HS2.out.tbl HS2.out.cor.tsh).mono ?_; rintro e w3 ⟨a3, c3, rfl, hb3, hi3, hn3⟩
                      have HP3 := Lib.hid (HS2.out.book.below hb3)
                      have HH3 := Lib.hid (hn3.hok HS2.out.below.size)
                      have HN3 := Lib.hid hn3.new
                      have HX3 := Lib.hid (HX2.out.below hb3)
                      have HS3 := Lib.hid (HS2.out.after hb3)
                      have HI3 := Lib.hid hi3
                      have HL3 := Lib.hid (seqR_short HS2.out.cor who sq ls)
                      clear hb3 hi3 hn3 v0 v1 v2 v3 v4 v5 v6
                      obtain ⟨-, v1, -, -, v4, v5, -⟩ := HX3.out.get HD16.out
                      dsimp only at v1 v4 v5
                      go_wp2_with fail
                      refine (rseq_t w.heap.size rt ro rc' Lo T n who sq ls w3 HS3.out.ref HS3.out.cor HS3.out.cor.reps).mono ?_; rintro e w4 ⟨a4, n4, c4, rfl, hb4, hi4⟩
                      have HP4 := Lib.hid (HP3.out.below hb4)
                      have HH4 := Lib.hid (HH3.out.below hb4)
                      have HS4 := Lib.hid (HS3.out.after hb4)
                      have HI4 := Lib.hid (HI3.out.below hb4)
                      have HJ4 := Lib.hid hi4
                      clear hb4 hi4 HP3 HH3 HS3 HI3 HX3 HX2 v1 v4 v5
                      generalize T.seqR who sq ls = rr at HI4 HJ4 HH4 HL3 HN3 ⊢
                      go_wp2_with fail
                      refine (sameB_any a3 a4 rr.length n4 c3 c4 rr rr w4 HI4.out HJ4.out).mono ?_; rintro e w5 ⟨rfl, j9, hw9⟩
                      rw [decide_eq_true rfl]
                      have hb9 : Below w4.heap.size w4 w5 := by rw [hw9]; exact below_drewN (Below.refl _ _) j9
                      have HP5 := Lib.hid (HP4.out.below hb9)
                      have HH5 := Lib.hid (HH4.out.below hb9)
                      have HS5' := Lib.hid (HS4.out.after hb9)
                      clear hb9 hw9 HP4 HH4 HS4 HI4 HJ4
                      go_wp2_with fail
                      refine (bytes_p w5 w.heap.size bk _ (100 + j) HP5.out ⟨a3, rr.length, c3⟩ HH5.out (by have := HL3.out; dsimp only; omega) HN3.out (by omega)).mono ?_; rintro e w6 ⟨rfl, ht6, hp6⟩
                      have HS6 := Lib.hid (HS5'.out.kept ht6 hp6.top)
                      clear ht6 hp6 HP5 HH5 HS5' HL3 HN3 HBK HT2 HS2
                      go_wp2_with fail
                      go_roundw
                      case rel => exact ⟨j + 1, _, _, _, _, _, _, _, _, _, _, hj6, rfl, rfl, by go_num, HS6⟩
                      case measure => simp [intOf]; omega
                -- keep
                · rcases hc with rfl | rfl
                  all_goals
                    have HSd := Lib.hid (HS2.out.after (Below.refl w2.heap.size w2).drew)
                    have HXd : Hid (BxT w2.drew hx ⟨kd8, who, sec, d, tk, sq, ls, rep⟩ ⟨qa, sec.length, qc, pa, rep.length, pc⟩) := HX2
                    have HTd : Hid (TwB w2.drew tg rep) := HT2
                    have HBd := Lib.hid (HBK.out.below (Below.refl w2.heap.size w2).drew)
                    have vd : w2.drew.cell? ⟨hx, 1, none⟩ = some (.int .u8 who.toNat) ∧ w2.drew.cell? ⟨hx, 20, none⟩ = some (.int .u32 sq.toNat) ∧ w2.drew.cell? ⟨hx, 22, none⟩ = some (.slice pa rep.length pc) := ⟨v1, v4, v6⟩
                    have hcc : 100 + j < 1000000 := by omega
                    by_cases hbd : T.bidder who = true
                    · as_aux_lemma =>
                        have HBID := Lib.hid hbd
                        clear hbd
                        go_wp2_with fail
                        go_region_held3 (fun w' => w'.cell? ⟨hx, 1, none⟩ = some (.int .u8 who.toNat) ∧ w'.cell? ⟨hx, 20, none⟩ = some (.int .u32 sq.toNat) ∧ w'.cell? ⟨hx, 22, none⟩ = some (.slice pa rep.length pc)) (first | with_reducible exact vd | exact q5 | exact q4 | exact q3) (first
                          | (go_at_call 19; refine (keep_yes bt b1 b2 b3 T who sq (some ⟨tg, 0, none⟩) rep.length (rep.length + 1) rep w2.drew HSd.out.tbl (HTd.out.twin.isB (by unfold maxLen; omega)) HBID.out).mono ?_; rintro e w3 ⟨rfl, ht3, htb3⟩; have HX3 := Lib.hid (HXd.out.touch ht3 ((HSd.out.mapS (.inr (.inr rfl))).cells HXd.out)); have q3 : w3.cell? ⟨hx, 1, none⟩ = some (.int .u8 who.toNat) ∧ w3.cell? ⟨hx, 20, none⟩ = some (.int .u32 sq.toNat) ∧ w3.cell? ⟨hx, 22, none⟩ = some (.slice pa rep.length pc) := ⟨(HX3.out.get HD16.out).2.1, (HX3.out.get HD16.out).2.2.2.2.1, (HX3.out.get HD16.out).2.2.2.2.2.2⟩; have HR3 := Lib.hid (HSd.out.ref1 (.inr (.inr rfl)) ht3); have HT3 : Hid (TwB w3 tg rep) := Lib.hid (ht3.heap HTd.out ((HSd.out.mapS (.inr (.inr rfl))).cells HTd.out)); have HB3 := Lib.hid (HBd.out.touch ht3 (map_other (HSd.out.mapS (.inr (.inr rfl))))))
                          | (go_at_call 20; refine (rkeep_yes w.heap.size rt ro rc' Lo T n who sq pa rep.length pc rep w3 HR3.out.1 HSd.out.cor (HIA.out.r.below HR3.out.2) (isB_roS HR3.out.1 HSd.out.ln HIA.out.r (Nat.le_refl _)) (by omega) HBID.out).mono ?_; rintro e w4 ⟨rfl, ht4, L', hr4, hc4⟩; have HX4 := Lib.hid (HX3.out.touch ht4 (roS_ne HR3.out.1 HSd.out.ln HX3.out (by decide))); have q4 : w4.cell? ⟨hx, 1, none⟩ = some (.int .u8 who.toNat) ∧ w4.cell? ⟨hx, 20, none⟩ = some (.int .u32 sq.toNat) ∧ w4.cell? ⟨hx, 22, none⟩ = some (.slice pa rep.length pc) := ⟨(HX4.out.get HD16.out).2.1, (HX4.out.get HD16.out).2.2.2.2.1, (HX4.out.get HD16.out).2.2.2.2.2.2⟩; have HS4 := Lib.hid (HSd.out.both (.inr (.inr rfl)) ht3 htb3 ht4 hr4 hc4); have HT4 : Hid (TwB w4 tg rep) := Lib.hid (ht4.heap HT3.out (roS_ne HR3.out.1 HSd.out.ln HT3.out (by decide))); have HB4 := Lib.hid (HB3.out.touch ht4 (roS_other HR3.out.1 HSd.out.ln)))
                          | (go_at_call 21; refine (left_any tg pa rep.length pc rep w4 (by omega) (HIA.out.r.below HS4.out.below) HT4.out.twin).mono ?_; rintro e w5 ⟨rfl, hb5⟩; have HX5 := Lib.hid (HX4.out.below hb5); have q5 : w5.cell? ⟨hx, 1, none⟩ = some (.int .u8 who.toNat) ∧ w5.cell? ⟨hx, 20, none⟩ = some (.int .u32 sq.toNat) ∧ w5.cell? ⟨hx, 22, none⟩ = some (.slice pa rep.length pc) := ⟨(HX5.out.get HD16.out).2.1, (HX5.out.get HD16.out).2.2.2.2.1, (HX5.out.get HD16.out).2.2.2.2.2.2⟩)
                          | fail)
                        have HS5 := Lib.hid (HS4.out.after hb5)
                        have HB5 := Lib.hid (HB4.out.below hb5)
                        have HT5 : Hid (TwB w5 tg rep) := Lib.hid (below_heap hb5 HT4.out (lt_of_heap HT4.out))
                        clear ht3 htb3 ht4 hr4 hc4 hb5 q3 q4 q5 HX5 HX4 HX3 HR3 HT3 HB3 HS4 HT4 HB4 HSd HXd HTd HBd vd HX2 HS2 HBK HT2 HBID v0 v1 v2 v3 v4 v5 v6
                        go_wp2_with fail
                        refine (bytes_p w5 w.heap.size bk _ (100 + j) HB5.out ⟨some ⟨tg, 0, none⟩, rep.length, rep.length + 1⟩ (HT5.out.hok HTG.out (by omega)) (by dsimp only; omega) (fun g e => by cases e; exact Nat.lt_irrefl _) hcc).mono ?_; rintro e w6 ⟨rfl, ht6, hp6⟩
                        have HS6 := Lib.hid (HS5.out.kept ht6 hp6.top)
                        clear ht6 hp6 HB5 HT5 HS5
                        go_wp2_with fail
                        go_roundw
                        case rel => exact ⟨j + 1, _, _, _, _, _, _, _, _, _, _, hj6, rfl, rfl, by go_num, HS6⟩
                        case measure => simp [intOf]; omega
                    · as_aux_lemma =>
                        have HBID : Hid (T.bidder who = false) := Lib.hid (by simpa using hbd)
                        clear hbd
                        go_wp2_with fail
                        go_region_held3 (fun w' => w'.cell? ⟨hx, 1, none⟩ = some (.int .u8 who.toNat) ∧ w'.cell? ⟨hx, 20, none⟩ = some (.int .u32 sq.toNat) ∧ w'.cell? ⟨hx, 22, none⟩ = some (.slice pa rep.length pc)) (first | with_reducible exact vd | exact q5) (first
                          | (go_at_call 19; refine (keep_no bt b1 b2 b3 T who sq (some ⟨tg, 0, none⟩) rep.length (rep.length + 1) w2.drew HSd.out.tbl HBID.out).mono ?_; rintro e w3 ⟨rfl, rfl⟩)
                          | (go_at_call 20; refine (rkeep_no w.heap.size rt ro rc' Lo T n who sq pa rep.length pc w2.drew HSd.out.ref HSd.out.cor HBID.out).mono ?_; rintro e w4 ⟨rfl, rfl⟩)
                          | (go_at_call 21; refine (left_any tg pa rep.length pc rep w2.drew (by omega) (HIA.out.r.below HSd.out.below) HTd.out.twin).mono ?_; rintro e w5 ⟨rfl, hb5⟩; have HX5 := Lib.hid (HXd.out.below hb5); have q5 : w5.cell? ⟨hx, 1, none⟩ = some (.int .u8 who.toNat) ∧ w5.cell? ⟨hx, 20, none⟩ = some (.int .u32 sq.toNat) ∧ w5.cell? ⟨hx, 22, none⟩ = some (.slice pa rep.length pc) := ⟨(HX5.out.get HD16.out).2.1, (HX5.out.get HD16.out).2.2.2.2.1, (HX5.out.get HD16.out).2.2.2.2.2.2⟩)
                          | fail)
                        have HS5 := Lib.hid (HSd.out.after hb5)
                        have HB5 := Lib.hid (HBd.out.below hb5)
                        have HT5 : Hid (TwB w5 tg rep) := Lib.hid (below_heap hb5 HTd.out (lt_of_heap HTd.out))
                        clear hb5 q5 HX5 HSd HXd HTd HBd vd HX2 HS2 HBK HT2 HBID v0 v1 v2 v3 v4 v5 v6
                        go_wp2_with fail
                        refine (bytes_p w5 w.heap.size bk _ (100 + j) HB5.out ⟨some ⟨tg, 0, none⟩, rep.length, rep.length + 1⟩ (HT5.out.hok HTG.out (by omega)) (by dsimp only; omega) (fun g e => by cases e; exact Nat.lt_irrefl _) hcc).mono ?_; rintro e w6 ⟨rfl, ht6, hp6⟩
                        have HS6 := Lib.hid (HS5.out.kept ht6 hp6.top)
                        clear ht6 hp6 HB5 HT5 HS5
                        go_wp2_with fail
                        go_roundw
                        case rel => exact ⟨j + 1, _, _, _, _, _, _, _, _, _, _, hj6, rfl, rfl, by go_num, HS6⟩
                        case measure => simp [intOf]; omega
                -- copy
                · as_aux_lemma =>
                    go_wp2_with fail
                    refine (tcopy_any bt b1 b2 b3 T w2 HS2.out.tbl).mono ?_; rintro e w3 ⟨ct, c1, c2, c3, rfl, hb3, htb3, g1, g2', g3, g4⟩
                    have HX3 := Lib.hid (HX2.out.below hb3)
                    have HS3 := Lib.hid (HS2.out.after hb3)
                    have HB3' := Lib.hid hb3
                    have HTB3 := Lib.hid htb3
                    have HGG3 := Lib.hid (show w2.heap.size ≤ ct ∧ w2.heap.size ≤ c1 ∧ w2.heap.size ≤ c2 ∧ w2.heap.size ≤ c3 from ⟨g1, g2', g3, g4⟩)
                    clear hb3 htb3 g1 g2' g3 g4 v0 v1 v2 v3 v4 v5 v6
                    obtain ⟨-, v1, v2, -, -, -, -⟩ := HX3.out.get HD16.out
                    dsimp only at v1 v2
                    go_wp2_with (first
                      | (refine wpList_load_mid rfl 30 (.tmp 144) rfl hx 3 rfl (bcells d) _ HX3.out.draw Tryz.underlying30 rfl (by rw [bcells_length, HD16.out]; exact infoDraw) ?_)
                      | fail)
                    refine (lg_any bt b1 b2 b3 T who qa sec.length qc sec d w3 HS3.out.tbl (HIA.out.s.below HS3.out.below) HD16.out).mono ?_; rintro e w4 ⟨v, rfl, ht4⟩
                    have HR4 := Lib.hid (HS3.out.ref1 (.inr (.inl rfl)) ht4)
                    have HT4 := Lib.hid ht4
                    clear ht4 v1 v2
                    go_wp2_with fail
                    refine (rtcopy_any w.heap.size rt ro rc' Lo w4 HR4.out.1 HS2.out.ln).mono ?_; rintro e w5 ⟨ct', co', cc', rfl, hb5, hge5, hr5⟩
                    have HS6 := Lib.hid ((HS2.out.copied HB3'.out HTB3.out HGG3.out HT4.out (fun k hk => hk) hb5 (fun _ => hr5)).more (show 100 + j ≤ 100 + (j + 1) by omega))
                    clear hb5 hge5 hr5 HR4 HT4 HX3 HS3 HB3' HTB3 HGG3 HX2 HS2 HBK HT2
                    go_wp2_with fail
                    go_roundw
                    case rel => exact ⟨j + 1, _, _, _, _, _, _, _, _, _, _, hj6, rfl, rfl, by go_num, HS6⟩
                    case measure => simp [intOf]; omega
              · as_aux_lemma =>
                  have hke : j = M3 := by omega
                  subst hke
                  have hkk : ¬ j < L.length := by have := HM3.out; omega
                  clear hlt
                  go_wp2_with fail
                  refine (apart_p _ w.heap.size bk _ _ HS.out.book).mono ?_; rintro e w9 ⟨rfl, hb9⟩
                  have HB9 := Lib.hid (HS.out.below.trans hb9)
                  clear hb9
                  go_wp2_with fail
                  refine (lives_any _).mono ?_; rintro e wa ⟨rfl, hba⟩
                  have HBE := Lib.hid (HB9.out.trans (hba.mono HB9.out.size))
                  clear hba
                  go_wp2
                  go_ret
                  exact ⟨rfl, HBE.out⟩

end Go.Proofs.YthadgnaaipdpaaaGreatDoor
