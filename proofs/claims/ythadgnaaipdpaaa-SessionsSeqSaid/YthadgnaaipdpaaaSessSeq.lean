/- The statement SessionsSeq; conditions: those typed. -/
import Derived.Test.YthadgnaaipdpaaaSessSeqA
import Derived.Deep.Cut
import Derived.Outline
namespace Go.Proofs.Ythadgnaaipdpaaa
open Go.RowKit
set_option linter.unusedVariables false

set_option maxRecDepth 100000 in
set_option maxHeartbeats 4000000 in
theorem sseq_test (ra : Option Addr) (rn rc : Nat) (uv : UInt64) (sa : Option Addr) (sn sc : Nat) (aa : Option Addr) (an ac : Nat) (ua : Option Addr) (un uc : Nat) (who : UInt8) (s l : UInt32) (pa : Option Addr) (pn pc : Nat) (p : List UInt8) (cs cv : List Value) (w : World)
    (hcv : cv = cfgL ra rn rc sa sn sc aa an ac ua un uc uv) (hcs : cs = seqsL cv who s l pa pn pc)
    (L : List (List UInt8)) (ad au : List UInt8) (hL : IsBB w 0 sa sn sc L) (ha : IsB w aa an ac ad) (hu : IsB w ua un uc au) (hp : IsB w pa pn pc p) (hLm : ∀ l ∈ L, l.length ≤ 140737488351232) (ham : ad.length ≤ 140737488351232) (hum : au.length ≤ 140737488351232) :
    Calls Try.prog 4 #[.agg cs.toArray] w fun e w' => e = .returned (.bool true) ∧ Below w.heap.size w w' := by
  have hb0 := heap_new w (.cells cs.toArray 45 (0, 0))
  have hB0 : Below w.heap.size w (w.alloc (.cells cs.toArray 45)) := (Below.refl _ _).alloc (Nat.le_refl _) _
  obtain ⟨w0, hw0⟩ : ∃ w0, w0 = w.alloc (.cells cs.toArray 45) := ⟨_, rfl⟩
  rw [← hw0] at hb0 hB0
  have hs0 : w.heap.size < w0.heap.size := lt_of_heap hb0
  have W0 := Lib.hid hw0
  have HCS := Lib.hid hcs
  have HCV := Lib.hid hcv
  have HCL : Hid (cv.length = 5) := Lib.hid (by rw [hcv]; rfl)
  have R0 := Lib.hid (seqs_range hb0 hcs)
  have HB0 := Lib.hid hB0
  have HR := Lib.hid hb0
  clear hw0 hcs hcv hb0 hB0
  go_enter Try.func4, Try.ntmps4
  go_wp2_with (first
    | (refine wpList_load_mid rfl 27 (.tmp 11) rfl w.heap.size 0 rfl cv _ ?_ Try.underlying27 rfl (by rw [HCL.out]; exact info_cfg) ?_; · rw [← W0.out]; exact R0.out
       rw [← W0.out])
    | fail)
  generalize w.heap.size = bz at HR R0 hs0 ⊢
  by_cases hn : L.length < 1 ∨ 8 < L.length
  · refine (snewL_bad HCV.out (by rw [hL.1]; exact hn)).mono ?_; rintro e w4 ⟨rfl, hb4⟩
    clear hL ha hu hn hp
    go_wp2_with fail
    refine (lives_any w4).mono ?_; rintro e w5 ⟨rfl, hb5⟩
    go_wp2_with fail
    go_ret
    exact ⟨rfl, (HB0.out.trans (hb4.mono HB0.out.size)).trans (hb5.mono (Nat.le_trans HB0.out.size hb4.size))⟩
  have hn1 : 1 ≤ L.length := by omega
  have hn8 : L.length ≤ 8 := by omega
  clear hn
  obtain ⟨k, hkl, hke, HK⟩ := pick_index who L.length hn1 hn8
  clear hke
  have hne : ((L.length : Int) == 0) = false := by rw [beq_eq_false_iff_ne]; omega
  obtain rfl := hL.1
  obtain rfl := hp.1
  refine (snewL_good HCV.out (hL.below HB0.out) (ha.below HB0.out) (hu.below HB0.out) hn1 hn8 hLm ham hum).mono ?_; rintro e w4 ⟨bt, b1, b2, b3, rfl, hb4, hT4, g1, g2, g3, g4⟩
  have HR4 := Lib.hid (below_heap hb4 HR.out hs0)
  obtain ⟨c1, c5, c6, c7, c8⟩ := seqs_cells HR4.out HCS.out HCV.out
  have HB4 := Lib.hid (HB0.out.trans (hb4.mono HB0.out.size))
  have hp4 := hp.below HB4.out
  have HG : Hid (w.heap.size ≤ b3) := Lib.hid (Nat.le_trans HB0.out.size g4)
  have eb : (newT L ad au).bidder (UInt8.ofNat (k + 1)) = true := newT_bidder L ad au k hkl hn8
  have er := fun k => newT_seqR L ad au k s l
  have es := newT_short L ad au
  have EB := Lib.hid eb
  have ER := Lib.hid er
  have ES := Lib.hid es
  have ek : (1 + (k : Int)) % 256 = ((UInt8.ofNat (k + 1)).toNat : Int) := by simp; omega
  have EK := Lib.hid ek
  clear hL ha hu hp hb4 g1 g2 g3 g4 hLm ham hum eb er es ek
  by_cases h5 : 5000 < p.length
  · have h5d : decide ((5000 : Int) < (p.length : Int)) = true := by rw [decide_eq_true_eq]; omega
    clear h5
    go_wp2_with fail
    refine (lives_any w4).mono ?_; rintro e w5 ⟨rfl, hb5⟩
    go_wp2_with fail
    go_ret
    exact ⟨rfl, HB4.out.trans (hb5.mono HB4.out.size)⟩
  have h5d : decide ((5000 : Int) < (p.length : Int)) = false := by rw [decide_eq_false_iff_not]; omega
  have hp5 : p.length ≤ 5000 := by omega
  clear h5
  go_upto_region 5 with (fail)
  rw [HK.out.2.1, HK.out.1, HK.out.2.2.1, EK.out]
  clear HK EK hkl
  generalize UInt8.ofNat (k + 1) = ki at EB ⊢
  have ec := Tbl.seqE_cases (newT L ad au) ki s l EB.out
  have e2 := Tbl.seqE_same (newT L ad au) ki (s + 1) EB.out
  generalize newT L ad au = T at hT4 EB ER ES ec e2 ⊢
  have EC := Lib.hid ec
  have E2 := Lib.hid e2
  clear ec e2
  go_wp2_with fail
  refine (seq_any bt b1 b2 b3 T ki s l w4 hT4 ES.out).mono ?_; rintro e w5 ⟨a5, cc5, rfl, hb5, _⟩
  rw [ER.out ki]
  have HR5 := Lib.hid (below_heap hb5 HR4.out (lt_of_heap HR4.out))
  have hT5 := hT4.below hb5
  have hp5' := hp4.below hb5
  have HB5 := Lib.hid (HB4.out.trans (hb5.mono HB4.out.size))
  clear c1 c5 c6 c7 c8 HR4 hT4 hp4 HB4 hb5
  obtain ⟨_, _, c6, c7, c8⟩ := seqs_cells HR5.out HCS.out HCV.out
  have hb255 := T.bidder_255
  have hb0 := T.bidder_0
  have HB0' : Hid ((T.put ki s p).bidder 0 = false ∧ (T.put ki s p).bidder 255 = false) := Lib.hid ⟨hb0, hb255⟩
  clear hb255 hb0
  have hu32 : (s.toNat : Int) < 4294967296 := by have := s.toNat_lt; omega
  have hl32 : (l.toNat : Int) < 4294967296 := by have := l.toNat_lt; omega
  have hx5 : ((T.put ki s p).short) := T.put_short ki s p ES.out (by omega)
  have hx7 : (T.put ki s p).seqR ki (s + 1) (s + 1) = [] := by rw [T.put_seqR ki s (s + 1) (s + 1) p, if_neg]; exact fun x => u32_ne_next s x.2
  have hx8 : (T.put ki s p).seqE ki s l = T.seqE ki s l := rfl
  have hx9 : (T.put ki s p).seqE ki (s + 1) (s + 1) = T.seqE ki (s + 1) (s + 1) := rfl
  have X5 := Lib.hid hx5
  have X7 := Lib.hid hx7
  have X8 := Lib.hid hx8
  have X9 := Lib.hid hx9
  have UN : Hid (((s.toNat : Int) + 1) % 4294967296 = ((s + 1).toNat : Int)) := Lib.hid (u32_next' s)
  clear hx5 hx7 hx8 hx9
  have Q : Hid ((decide (l.toNat < s.toNat) = true ∧ (((s.toNat : Int) - (l.toNat : Int)) % 4294967296 == 1) = true ∧ ((s.toNat : Int) - (l.toNat : Int)) % 4294967296 = 1 ∧ ((s.toNat : Int) == (l.toNat : Int)) = false ∧ T.seqE ki s l = 0 ∧ (T.put ki s p).seqR ki s l = []) ∨
      (decide (l.toNat < s.toNat) = false ∧ ((s.toNat : Int) == (l.toNat : Int)) = true ∧ ((s.toNat : Int) == 0) = false ∧ ((s.toNat : Int) != 0) = true ∧ T.seqE ki s l = 11 ∧ (T.put ki s p).seqR ki s l = p) ∨
      (decide (l.toNat < s.toNat) = false ∧ ((s.toNat : Int) == (l.toNat : Int)) = true ∧ ((s.toNat : Int) == 0) = true ∧ ((s.toNat : Int) != 0) = false ∧ T.seqE ki s l = 10 ∧ (T.put ki s p).seqR ki s l = []) ∨
      (decide (l.toNat < s.toNat) = false ∧ ((s.toNat : Int) == (l.toNat : Int)) = false ∧ T.seqE ki s l = 10 ∧ (T.put ki s p).seqR ki s l = []) ∨
      (decide (l.toNat < s.toNat) = true ∧ (((s.toNat : Int) - (l.toNat : Int)) % 4294967296 == 1) = false ∧ ¬ ((s.toNat : Int) - (l.toNat : Int)) % 4294967296 = 1 ∧ ((s.toNat : Int) == (l.toNat : Int)) = false ∧ T.seqE ki s l = 10 ∧ (T.put ki s p).seqR ki s l = [])) := Lib.hid (by
    have hR := T.put_seqR ki s s l p
    rcases EC.out with ⟨h, h'⟩ | ⟨h, h', h''⟩ | ⟨h, h', h''⟩ | ⟨h, h'⟩ | ⟨h, h'⟩
    · exact .inl ⟨by rw [decide_eq_true_eq]; omega, by rw [beq_iff_eq]; omega, by omega, by rw [beq_eq_false_iff_ne]; omega, h', by rw [hR, h', if_neg (by simp)]⟩
    · have h1 : s.toNat ≠ 0 := fun e => h' (UInt32.toNat_inj.1 e)
      exact .inr (.inl ⟨by rw [h]; simp, by rw [h]; simp, by rw [beq_eq_false_iff_ne]; omega, by rw [bne_iff_ne]; omega, h'', by rw [hR, h'', if_pos ⟨rfl, rfl⟩]⟩)
    · exact .inr (.inr (.inl ⟨by rw [h, h']; simp, by rw [h, h']; simp, by rw [h]; rfl, by rw [h]; rfl, h'', by rw [hR, h'', if_neg (by simp)]⟩))
    · exact .inr (.inr (.inr (.inl ⟨by rw [decide_eq_false_iff_not]; omega, by rw [beq_eq_false_iff_ne]; omega, h', by rw [hR, h', if_neg (by simp)]⟩)))
    · exact .inr (.inr (.inr (.inr ⟨by rw [decide_eq_true_eq]; omega, by rw [beq_eq_false_iff_ne]; omega, by omega, by rw [beq_eq_false_iff_ne]; omega, h', by rw [hR, h', if_neg (by simp)]⟩))))
  clear EC
  rcases Q.out with ⟨q1, q2, q3, q4, qe, qr⟩ | ⟨q1, q2, q3, q4, qe, qr⟩ | ⟨q1, q2, q3, q4, qe, qr⟩ | ⟨q1, q2, qe, qr⟩ | ⟨q1, q2, q3, q4, qe, qr⟩
  all_goals
    clear Q
    have QE := Lib.hid qe
    have QR := Lib.hid qr
    clear qe qr
    rw [QE.out]
    go_wp2_with fail
    refine (keep_yes bt b1 b2 b3 T ki s pa p.length pc p w5 hT5 hp5' EB.out).mono ?_; rintro e w6 ⟨rfl, ht6, hT6⟩
    have hT6' : IsTbl w6 bt b1 b2 b3 (T.put ki s p) := hT6
    have hmo : MapsOnly (fun k => k = b3) w5 := fun k hk => hT5.maps k (.inr (.inr hk))
    have HR6 := Lib.hid (ht6.heap HR5.out (hmo.cells HR5.out))
    have hp6 := hp5'.keep ht6 hmo
    have HB6 := Lib.hid (HB5.out.trans (ht6.below HB5.out.size (fun k hk e => by have := HG.out; omega)))
    clear c6 c7 c8 HR5 hT5 hp5' HB5 ht6 hT6 hmo
    obtain ⟨_, _, c6, c7, c8⟩ := seqs_cells HR6.out HCS.out HCV.out
    go_wp2_with fail
    refine (keep_no bt b1 b2 b3 (T.put ki s p) 0 s pa p.length pc w6 hT6' HB0'.out.1).mono ?_; rintro e w7 ⟨rfl, rfl⟩
    go_wp2_with fail
    refine (keep_no bt b1 b2 b3 (T.put ki s p) 255 s pa p.length pc w6 hT6' HB0'.out.2).mono ?_; rintro e w7 ⟨rfl, rfl⟩
    go_wp2_with fail
    refine (seq_any bt b1 b2 b3 (T.put ki s p) ki s l w6 hT6' X5.out).mono ?_; rintro e w7 ⟨a7, cc7, rfl, hb7, hB7⟩
    rw [X8.out, QE.out]
    rw [QR.out] at hB7 ⊢
    have HR7 := Lib.hid (below_heap hb7 HR6.out (lt_of_heap HR6.out))
    have hT7 := hT6'.below hb7
    have hp7 := hp6.below hb7
    have HB7 := Lib.hid (HB6.out.trans (hb7.mono HB6.out.size))
    clear c6 c7 c8 HR6 hT6' hp6 HB6 hb7
    obtain ⟨_, _, c6, c7, c8⟩ := seqs_cells HR7.out HCS.out HCV.out
    go_wp2_with fail
    first
      | (refine (sameB_any a7 pa _ _ cc7 pc p p w7 hB7 hp7).mono ?_
         rintro e w8 ⟨rfl, j, rfl⟩
         rw [decide_eq_true (rfl : p = p)]
         have hbj := below_drewN (Below.refl w7.heap.size w7) j
         have HR8 := Lib.hid (below_heap hbj HR7.out (lt_of_heap HR7.out))
         have hT8 := hT7.below hbj
         have HB8 := Lib.hid (HB7.out.trans (hbj.mono HB7.out.size))
         clear c6 c7 c8 hbj
         generalize w7.drewN j = w8 at HR8 hT8 HB8 ⊢
         obtain ⟨_, _, c6, c7, c8⟩ := seqs_cells HR8.out HCS.out HCV.out
         clear HR7 hT7 HB7 hB7 hp7
         go_wp2_with fail)
      | (have HR8 := HR7
         have hT8 := hT7
         have HB8 := HB7
         clear HR7 hT7 HB7 hB7 hp7
         generalize w7 = w8 at HR8 hT8 HB8 c6 c7 c8 ⊢)
    rw [UN.out]
    refine (seq_any bt b1 b2 b3 (T.put ki s p) ki (s + 1) (s + 1) w8 hT8 X5.out).mono ?_; rintro e w9 ⟨a9, cc9, rfl, hb9, _⟩
    rw [X9.out, X7.out]
    have HR9 := Lib.hid (below_heap hb9 HR8.out (lt_of_heap HR8.out))
    have HB9 := Lib.hid (HB8.out.trans (hb9.mono HB8.out.size))
    clear c6 c7 c8 HR8 hT8 HB8 hb9
    obtain ⟨_, _, c6, c7, c8⟩ := seqs_cells HR9.out HCS.out HCV.out
    by_cases hz : s + 1 = 0
    · rw [E2.out, if_pos hz]
      have hz1 : (((s.toNat : Int) + 1) % 4294967296 != 0) = false := by rw [u32_next' s, hz]; rfl
      clear hz
      go_wp2_with fail
      refine (lives_any w9).mono ?_; rintro e w10 ⟨rfl, hb10⟩
      go_wp2_with fail
      go_ret
      exact ⟨rfl, HB9.out.trans (hb10.mono HB9.out.size)⟩
    · rw [E2.out, if_neg hz]
      have hz1 : (((s.toNat : Int) + 1) % 4294967296 != 0) = true := by rw [u32_next' s, bne_iff_ne]; exact fun h => hz (u32_zero h)
      clear hz
      go_wp2_with fail
      refine (lives_any w9).mono ?_; rintro e w10 ⟨rfl, hb10⟩
      go_wp2_with fail
      go_ret
      exact ⟨rfl, HB9.out.trans (hb10.mono HB9.out.size)⟩

end Go.Proofs.Ythadgnaaipdpaaa
