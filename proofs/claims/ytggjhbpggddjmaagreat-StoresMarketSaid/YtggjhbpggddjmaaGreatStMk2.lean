/- Layer 20: StoresMarket; conditions: those typed. -/
import Derived.Test.YtggjhbpggddjmaaGreatStMktP
import Derived.Test.YtggjhbpggddjmaaGreatSameR
import Derived.Test.YtggjhbpggddjmaaGreatStArg2
namespace Go.Proofs.YtggjhbpggddjmaaGreat
open Go.RowKit
set_option linter.unusedVariables false
set_option linter.unusedSimpArgs false

/-- Between two rounds of sets. -/
structure MqS (w : World) (c : StC) (bs bd bl : Nat) (y : StA) (w0 : World) (j : Nat) (D : Dsk) (wr : World) : Prop where
  st : IsStore wr bs bd bl y c D
  inv : StInv c D (j + 2)
  left : D.left = -1
  ph : phD c.s.length D = (1, [], true)
  bel : Below w0.heap.size w0 wr

theorem MqS.below {w0 w w' : World} {c : StC} {bs bd bl j : Nat} {y : StA} {D : Dsk} (h : MqS w c bs bd bl y w0 j D w') {w2 : World} (hb : Below w'.heap.size w' w2) : MqS w c bs bd bl y w0 j D w2 := ⟨h.st.below hb, h.inv, h.left, h.ph, h.bel.trans (hb.mono h.bel.size)⟩
/-- Behind the close. -/
structure FnS (w : World) (c : StC) (bs bd bl : Nat) (y : StA) (D : Dsk) (xm : MkA) (bm : Nat) (ra : Option Addr) (rc : Nat) (oa : Option Addr) (oc turn : Nat) (C : Array Value) (W : World) : Prop where
  st : IsStore W bs bd bl y c D
  mkt : IsMk W (fun k => w.heap.size ≤ k) xm (mktC c D)
  box : W.heap[bm]? = some (.cells xm.cells.toArray 66 (0, 0))
  cfg : W.heap[w.heap.size]? = some (.cells C 27 (0, 0))
  ord : IsI W oa c.s.length oc (turnL c.s.length turn c.s.length)
  res : IsI W ra c.r.length rc c.r
  bel : Below w.heap.size w W
theorem FnS.below {w W W' : World} {c : StC} {bs bd bl : Nat} {y : StA} {D : Dsk} {xm : MkA} {bm : Nat} {ra : Option Addr} {rc : Nat} {oa : Option Addr} {oc turn : Nat} {C : Array Value} (h : FnS w c bs bd bl y D xm bm ra rc oa oc turn C W) (hb : Below W.heap.size W W') : FnS w c bs bd bl y D xm bm ra rc oa oc turn C W' :=
  ⟨h.st.below hb, h.mkt.below hb, below_heap hb h.box (lt_of_heap h.box), below_heap hb h.cfg (lt_of_heap h.cfg), h.ord.below hb, h.res.below hb, h.bel.trans (hb.mono h.bel.size)⟩
theorem cast_turn (j turn n : Nat) : ((j : Int) + (turn : Int)) % (n : Int) = (((j + turn) % n : Nat) : Int) := by rw [Int.natCast_emod]; rfl

set_option maxRecDepth 100000 in
set_option maxHeartbeats 32000000 in
theorem market_any (x : StA) (c : StC) (la : Option Addr) (ln lc : Nat) (L : List RcV) (turn : Nat) (w : World) (hc : IsCf w (fun k => k < w.heap.size) x c) (hL : IsRows RcV.cells 3 w la ln lc L) (hR : ∀ x ∈ L, RcOk w x) (ht : turn < 256) :
    Calls Tryz.prog 6 #[.agg (x.cells c.t).toArray, .slice la ln lc, .int .u8 turn] w fun e w' => e = .returned (.bool true) ∧ Below w.heap.size w w' := by
  obtain ⟨ra, rn, rc, sa, sn, sc, sv, aa, an, ac, ua, un, uc⟩ := x
  obtain rfl : sn = c.s.length := hc.s.1
  obtain rfl : rn = c.r.length := hc.r.1.1
  obtain rfl := hL.1
  have hNO := fun w hc hm => made_no (fun k => k < w.heap.size) ⟨ra, c.r.length, rc, sa, c.s.length, sc, sv, aa, an, ac, ua, un, uc⟩ c w hc hm
  have hYES := fun w P hc hP hm => made_yes P ⟨ra, c.r.length, rc, sa, c.s.length, sc, sv, aa, an, ac, ua, un, uc⟩ c w hc hP hm
  unfold StA.cells at hNO hYES ⊢
  dsimp only at hNO hYES ⊢
  have HNO := Lib.hid hNO
  have HYES := Lib.hid hYES
  have hb0 : Below w.heap.size w (w.alloc (.cells #[.slice ra c.r.length rc, .slice sa c.s.length sc, .slice aa an ac, .slice ua un uc, .int .u64 (c.t : Int)] 27)) := (Below.refl _ _).alloc (Nat.le_refl _) _
  have hv := heap_new w (.cells #[.slice ra c.r.length rc, .slice sa c.s.length sc, .slice aa an ac, .slice ua un uc, .int .u64 (c.t : Int)] 27 (0, 0))
  have HC := Lib.hid (hc.below hb0)
  have HRI := Lib.hid hc.r
  have HL := Lib.hid hL
  have HRO := Lib.hid hR
  clear hNO hYES hc hL hR
  go_enter Tryz.func6, Tryz.ntmps6
  go_wp2_with (first
    | (refine wpList_load_mid rfl 27 (.tmp 3) rfl w.heap.size 0 rfl [.slice ra c.r.length rc, .slice sa c.s.length sc, .slice aa an ac, .slice ua un uc, .int .u64 (c.t : Int)] _ (rangeAt_row hv) Tryz.underlying27 rfl info_cfg ?_)
    | fail)
  generalize w.alloc (.cells #[.slice ra c.r.length rc, .slice sa c.s.length sc, .slice aa an ac, .slice ua un uc, .int .u64 (c.t : Int)] 27) = w0 at hb0 hv HC ⊢
  have HB0 := Lib.hid hb0
  have HV := Lib.hid hv
  have HZ : Hid (w.heap.size < w0.heap.size) := Lib.hid (lt_of_heap hv)
  clear hb0 hv
  cases hm : mayB c with
  | false =>
    refine (HNO.out w0 (HC.out.imp (fun k hk => by have := HZ.out; omega)) hm).mono ?_; rintro e w1 ⟨rfl, hb1⟩
    have HB1 := Lib.hid (HB0.out.trans (hb1.mono HB0.out.size))
    clear hb1 hm
    go_wp2_with fail
    refine (lives_any w1).mono ?_; rintro e w2 ⟨rfl, hb2⟩
    have HB2 := Lib.hid (HB1.out.trans (hb2.mono HB1.out.size))
    clear hb2
    go_wp2_with fail
    go_ret
    exact ⟨rfl, HB2.out⟩
  | true =>
    have HM := Lib.hid ((mayB_iff c).1 hm)
    refine (HYES.out w0 _ HC.out (fun k hk => by have := HZ.out; omega) hm).mono ?_; rintro e w1 ⟨bs, bd, bl, y, D, rfl, hb1, hs1, hg, hc1, r1, ⟨r2, -⟩, r3, r4⟩
    have HB1 := Lib.hid (HB0.out.trans (hb1.mono HB0.out.size))
    have HV1 := Lib.hid (below_heap hb1 HV.out (lt_of_heap HV.out))
    have HS1 := Lib.hid hs1
    have HG : Hid (∀ k, k < w0.heap.size → ¬ (k = bd ∨ k = bl)) := Lib.hid (fun k hk => by omega)
    have HZ1 : Hid (w0.heap.size ≤ w1.heap.size) := Lib.hid hb1.size
    obtain ⟨D2, o1, o2, o3, o4⟩ := first_open r1 r2 r3
    have HO := Lib.hid (And.intro o1 (And.intro o2 (And.intro o3 o4)))
    have HR1 := Lib.hid r1
    clear hb1 hs1 hg hc1 r1 r2 r3 r4 hm HNO HYES HC o1 o2 o3 o4
    by_cases h20 : 20 < L.length
    · have d1 : decide ((20 : Int) < (L.length : Int)) = true := decide_eq_true (by omega)
      have d2 : decide (20 < L.length) = true := decide_eq_true h20
      clear h20
      go_wp2_with fail
      refine (lives_any w1).mono ?_; rintro e w2 ⟨rfl, hb2⟩
      have HB2 := Lib.hid (HB1.out.trans (hb2.mono HB1.out.size))
      clear hb2
      go_wp2_with fail
      go_ret
      exact ⟨rfl, HB2.out⟩
    have d1 : decide ((20 : Int) < (L.length : Int)) = false := decide_eq_false (by omega)
    have d2 : decide (20 < L.length) = false := decide_eq_false h20
    have H20 : Hid (L.length ≤ 20) := Lib.hid (by omega)
    clear h20
    go_wp2_with fail
    refine (turn_pub bs bd bl y c D 1 none 0 0 [] 6 w1 HS1.out (IsI.nil _) (by decide) (by decide) HR1.out.fine (by decide) HR1.out.lt12).mono ?_; rintro e w2 ⟨rfl, ht2, hd2⟩
    rw [HO.out.1] at hd2 ⊢
    have hz1 : ∀ k, k < w0.heap.size → ¬ (k = bd ∨ k = bl) := HG.out
    have HJ0 : Hid (MqS w c bs bd bl y w 0 D2 w2) := Lib.hid ⟨HS1.out.put ht2 hd2, HO.out.2.1, HO.out.2.2.1, HO.out.2.2.2, HB1.out.trans (ht2.below HB1.out.size (fun k hk => hz1 k (by have := HZ.out; omega)))⟩
    have v2 := ht2.heap HV1.out (hz1 _ HZ.out)
    have HV2 := Lib.hid v2
    clear ht2 hd2 HS1 HB1 HV1 HR1 HO d1 d2 v2
    go_wp2_with fail
    obtain ⟨N, hN⟩ : ∃ N, N = L.length := ⟨_, rfl⟩
    have HN := Lib.hid hN
    have h8 : 1 ≤ c.s.length ∧ c.s.length ≤ 8 := HM.out.s
    clear hN hz1
    go_loopw [9] (fun i wr => ∃ k : Nat, ∃ D', k ≤ L.length ∧ i = .int .i64 k ∧ Hid (MqS w c bs bd bl y w k D' wr ∧ wr.heap[w.heap.size]? = some (.cells #[.slice ra c.r.length rc, .slice sa c.s.length sc, .slice aa an ac, .slice ua un uc, .int .u64 (c.t : Int)] 27 (0, 0)))) (fun i _ => N - (intOf i).toNat)
    case atStart => exact ⟨0, D2, Nat.zero_le _, rfl, Lib.hid ⟨HJ0.out, HV2.out⟩⟩
    case round =>
      clear HJ0 HV2
      obtain ⟨k, Dk, hk, rfl, HJ⟩ := hrel
      by_cases hlt : k < L.length
      · obtain ⟨lb, lo, rfl, hlb, hcells⟩ : ∃ lb lo, la = some ⟨lb, lo, none⟩ ∧ lb < w.heap.size ∧ ∀ i (hi : i < L.length) j v, (L[i].cells)[j]? = some v → w.cell? ⟨lb, lo + i * 3 + j, none⟩ = some v := by
          rcases HL.out.2.2.2 with h | h
          · rw [h] at hlt; exact absurd hlt (by simp)
          · exact h
        have hro := HRO.out L[k] (List.getElem_mem hlt)
        have c0 := hcells k hlt 0 _ rfl
        have c1 := hcells k hlt 1 _ rfl
        have c2 := hcells k hlt 2 _ rfl
        clear hcells
        generalize L[k] = xr at hro c0 c1 c2
        obtain ⟨sq, st, ba, bn, bc, l⟩ := xr
        dsimp only at c0 c1 c2
        have hbel := HJ.out.1.bel
        have e0 : wr.cell? ⟨lb, lo + k * 3, none⟩ = some (.int .u32 sq) := (hbel.cell (p := ⟨lb, lo + k * 3, none⟩) hlb).trans c0
        have e1 : wr.cell? ⟨lb, lo + k * 3 + 1, none⟩ = some (.bool st) := (hbel.cell (p := ⟨lb, lo + k * 3 + 1, none⟩) hlb).trans c1
        have e2 : wr.cell? ⟨lb, lo + k * 3 + 2, none⟩ = some (.slice ba bn bc) := (hbel.cell (p := ⟨lb, lo + k * 3 + 2, none⟩) hlb).trans c2
        have s1 : wr.cell? ⟨w.heap.size, 1, none⟩ = some (.slice sa c.s.length sc) := by rw [cell_of_block HJ.out.2]; rfl
        have z0 : wr.drew.cell? ⟨lb, lo + k * 3, none⟩ = some (.int .u32 sq) := e0
        have z1 : wr.drew.cell? ⟨lb, lo + k * 3 + 1, none⟩ = some (.bool st) := e1
        have z2 : wr.drew.cell? ⟨lb, lo + k * 3 + 2, none⟩ = some (.slice ba bn bc) := e2
        have zs1 : wr.drew.cell? ⟨w.heap.size, 1, none⟩ = some (.slice sa c.s.length sc) := s1
        have hn0 : ((c.s.length : Int) == 0) = false := by rw [beq_eq_false_iff_ne]; omega
        have hn1 : c.s.length ≠ 0 := by omega
        have HWR := Lib.hid (show ∀ W, Below wr.heap.size wr W → ∀ whoI : Int, whoI = ((k % c.s.length : Nat) : Int) → Calls Tryz.prog 13 #[.pointer (some ⟨bs, 0, none⟩), .int .i64 whoI, .agg #[.int .u32 sq, .bool st, .slice ba bn bc]] W fun e w' => e = .returned (.int .i64 (setD c.s.length c.r.length Dk ((k % c.s.length : Nat) : Int) ⟨sq, st, l⟩).1) ∧ Touch (fun k => k = bd ∨ k = bl) W w' ∧ IsDisk w' bd bl (setD c.s.length c.r.length Dk ((k % c.s.length : Nat) : Int) ⟨sq, st, l⟩).2 from fun W hW whoI hwho => by
          subst hwho
          exact set_ok bs bd bl y c Dk (k % c.s.length) sq st ba bn bc l (6 * ((k + 2 : Nat) : Int)) W (HJ.out.1.st.below hW) ((hro.i.below hbel).below hW) hro.sq (Nat.mod_lt _ (by omega)) (by omega) (by have := HM.out.r.2.1; omega) HJ.out.1.inv.fine (by have := H20.out; push_cast; omega) (HJ.out.1.inv.ltR _ (Nat.mod_lt _ (by omega))))
        have HNX : Hid (∀ W w' e', Below wr.heap.size wr W → Touch (fun k => k = bd ∨ k = bl) W w' → IsDisk w' bd bl (setD c.s.length c.r.length Dk ((k % c.s.length : Nat) : Int) ⟨sq, st, l⟩).2 → e' = (setD c.s.length c.r.length Dk ((k % c.s.length : Nat) : Int) ⟨sq, st, l⟩).2 → MqS w c bs bd bl y w (k + 1) e' w' ∧ w'.heap[w.heap.size]? = some (.cells #[.slice ra c.r.length rc, .slice sa c.s.length sc, .slice aa an ac, .slice ua un uc, .int .u64 (c.t : Int)] 27 (0, 0))) := Lib.hid (fun W w' e' hW ht hd he => by
          subst he
          obtain ⟨p1, p2, p3⟩ := set_keep HJ.out.1.inv HJ.out.1.left ((k % c.s.length : Nat) : Int) ⟨sq, st, l⟩ hro.sq
          exact ⟨⟨(HJ.out.1.st.below hW).put ht hd, p1, p2, by rw [p3]; exact HJ.out.1.ph, (hbel.trans (hW.mono hbel.size)).trans (ht.below (hbel.trans (hW.mono hbel.size)).size (fun j hj => HG.out j (by have := HZ.out; omega)))⟩, ht.heap (below_heap hW HJ.out.2 (lt_of_heap HJ.out.2)) (HG.out _ HZ.out)⟩)
        have hd0 : Below wr.heap.size wr wr.drew := (Below.refl _ _).drew
        have HLB : Hid (¬ (lb = bd ∨ lb = bl)) := Lib.hid (HG.out lb (by have := HZ.out; omega))
        have HWB : Hid (¬ (w.heap.size = bd ∨ w.heap.size = bl)) := Lib.hid (HG.out _ HZ.out)
        clear hbel hro c0 c1 c2 HJ
        obtain ⟨DN, hDN⟩ : ∃ DN, DN = (setD c.s.length c.r.length Dk ((k % c.s.length : Nat) : Int) ⟨sq, st, l⟩) := ⟨_, rfl⟩
        rw [← hDN] at HWR HNX
        clear hDN
        go_wp2_with fail
        go_region_held3 (fun w' => w'.cell? ⟨w.heap.size, 1, none⟩ = some (.slice sa c.s.length sc) ∧ w'.cell? ⟨lb, lo + k * 3, none⟩ = some (.int .u32 sq) ∧ w'.cell? ⟨lb, lo + k * 3 + 1, none⟩ = some (.bool st) ∧ w'.cell? ⟨lb, lo + k * 3 + 2, none⟩ = some (.slice ba bn bc)) (first
            | with_reducible exact ⟨s1, e0, e1, e2⟩
            | with_reducible exact ⟨zs1, z0, z1, z2⟩
            | with_reducible exact ⟨q3, q0, q1, q2⟩) (first
          | (go_at_call 13; ((with_reducible refine (HWR.out _ hd0 _ (by first | rfl | exact (Int.natCast_emod _ _).symm | exact (Int.ofNat_tmod _ _).symm | simp)).mono ?_); rintro e w5 ⟨rfl, ht5, hd5⟩; have q3 : w5.cell? ⟨w.heap.size, 1, none⟩ = some (.slice sa c.s.length sc) := ht5.cell zs1 HWB.out; have q0 : w5.cell? ⟨lb, lo + k * 3, none⟩ = some (.int .u32 sq) := ht5.cell z0 HLB.out; have q1 : w5.cell? ⟨lb, lo + k * 3 + 1, none⟩ = some (.bool st) := ht5.cell z1 HLB.out; have q2 : w5.cell? ⟨lb, lo + k * 3 + 2, none⟩ = some (.slice ba bn bc) := ht5.cell z2 HLB.out))
          | fail)
        all_goals
          have HJ2 := Lib.hid (HNX.out _ _ _ hd0 ht5 hd5 rfl)
          clear ht5 hd5 q0 q1 q2 q3 z0 z1 z2 zs1 e0 e1 e2 s1 HNX HWR hd0
          have hk31 : k < 31 := by have := H20.out; omega
          go_wp2_with fail
          go_roundw
          case rel => exact ⟨k + 1, _, by omega, by go_num, HJ2⟩
          case measure => have := HN.out; simp [intOf]; omega
      · have hkk : k = L.length := by omega
        subst hkk
        have s1 : wr.cell? ⟨w.heap.size, 1, none⟩ = some (.slice sa c.s.length sc) := by rw [cell_of_block HJ.out.2]; rfl
        go_wp2_with fail
        clear s1
        obtain ⟨w3, rfl⟩ : ∃ w3, w3 = wr := ⟨_, rfl⟩
        obtain ⟨M, hM⟩ : ∃ M, M = c.s.length := ⟨_, rfl⟩
        have HM' := Lib.hid hM
        clear hM
        go_loopw [12, 11] (fun i s wq => ∃ j : Nat, ∃ b' c', j ≤ c.s.length ∧ i = .int .i64 j ∧ s = .slice b' j c' ∧ wq.ownsRow w3.heap.size 3 1 (.slice b' j c') j (icells (turnL c.s.length turn j)) ∧ Below w3.heap.size w3 wq) (fun i _ _ => M - (intOf i).toNat)
        case atStart => exact ⟨0, none, 0, Nat.zero_le _, rfl, rfl, World.ownsRow_nil _ _ _ _, Below.refl _ _⟩
        case round =>
          obtain ⟨j, b', c', hj, rfl, rfl, hown, hbw⟩ := hrel
          by_cases hlt2 : j < c.s.length
          · have hn1 : c.s.length ≠ 0 := by omega
            have hm63 : c.s.length ≤ 9223372036854775807 := by omega
            go_wp2_with (at_builtin; refine wpList_append_any rowInt rfl (.tmp 60) (.tmp 67) rfl w3.heap.size _ j (icells (turnL c.s.length turn j)) rfl (hown.alloc _) (some ⟨wr.heap.size, 0, none⟩) 1 1 [.int .i64 (((j : Int) + (turn : Int)) % (c.s.length : Int))] rfl rfl (At.one _ _ _) (one_cell _ rfl) (by unfold maxLen; omega) (by omega) (by simp; exact Nat.le_trans hbw.size (Nat.le_succ _)) ?_; intro b2 c2 w2 hown2 hg2 hat2)
            have hB2 := (hbw.alloc hbw.size _).grown hg2 (by simp; exact Nat.le_trans hbw.size (Nat.le_succ _)) (fun i hi => owns_base hown i hi)
            have ht : icells (turnL c.s.length turn j) ++ [.int .i64 (((j : Int) + (turn : Int)) % (c.s.length : Int))] = icells (turnL c.s.length turn (j + 1)) := by rw [turnL_succ, cast_turn]; simp [icells]
            rw [ht] at hown2
            have HOW := Lib.hid hown2
            have HB2 := Lib.hid hB2
            clear hown2 ht hown hg2 hat2 hbw hB2
            go_wp2_with fail
            go_roundw
            case rel => exact ⟨j + 1, b2, c2, by omega, by go_num, rfl, HOW.out, HB2.out⟩
            case measure => have := HM'.out; simp [intOf]; omega
          · have hjk : j = c.s.length := by omega
            subst hjk
            have hii := isI_of_owns hown (by rw [turnL_length])
            have HOI := Lib.hid hii
            have HOB : Hid (∀ k off, b' = some ⟨k, off, none⟩ → w3.heap.size ≤ k) := Lib.hid (fun k off e => owns_base hown k (by rw [e]; rfl))
            have HJ4 := Lib.hid (HJ.out.1.below hbw)
            have HV4 := Lib.hid (below_heap hbw HJ.out.2 (lt_of_heap HJ.out.2))
            have HWS : Hid (w.heap.size < w3.heap.size) := Lib.hid (lt_of_heap HJ.out.2)
            have HDB : Hid (bd < w3.heap.size ∧ bl < w3.heap.size) := Lib.hid HJ.out.1.st.lt
            obtain ⟨q1, D5, q2, q3, q4, q5⟩ := close_all HJ.out.1.inv HJ.out.1.left HJ.out.1.ph (turnL c.s.length turn c.s.length) (turnL_ord _ _ h8.1)
            obtain ⟨q6, q7, q8⟩ := mkt_ok q3 _ q4 (turnL_ord _ _ h8.1)
            have HQ := Lib.hid (And.intro q1 (And.intro q2 (And.intro q3 (And.intro q4 (And.intro q5 (And.intro q6 (And.intro q7 q8)))))))
            clear hii hown hbw HJ q1 q2 q3 q4 q5 q6 q7 q8
            go_wp2_with fail
            refine (market_pub bs bd bl y c Dk wr HJ4.out.st (by omega) (by have := HM.out.r.2.1; omega)).mono ?_; rintro e w4 ⟨hmq, hb4⟩
            have he : e = .returned (.tuple #[.agg #[.slice none 0 0, .slice none 0 0, .slice none 0 0], .int .i64 8]) := by
              rcases hmq with ⟨_, h⟩ | ⟨h, _⟩ | ⟨h, _⟩
              · rw [h, HQ.out.1]
              · rw [HQ.out.1] at h; exact absurd h (by decide)
              · rw [HQ.out.1] at h; exact absurd h (by decide)
            subst he
            have HJ5 := Lib.hid (HJ4.out.below hb4)
            have HV5 := Lib.hid (below_heap hb4 HV4.out (lt_of_heap HV4.out))
            have HOI5 := Lib.hid (HOI.out.below hb4)
            clear hb4 hmq HJ4 HV4 HOI
            go_wp2_with fail
            have hba : Below w4.heap.size w4 (w4.alloc (.cells #[.slice none 0 0, .slice none 0 0, .slice none 0 0] 66 (0, 0))) := (Below.refl _ _).alloc (Nat.le_refl _) _
            have HJ6 := Lib.hid (HJ5.out.below hba)
            have HV6 := Lib.hid (below_heap hba HV5.out (lt_of_heap HV5.out))
            have HOI6 := Lib.hid (HOI5.out.below hba)
            clear hba HJ5 HV5 HOI5
            generalize (w4.alloc (.cells #[.slice none 0 0, .slice none 0 0, .slice none 0 0] 66 (0, 0))) = w5 at HJ6 HV6 HOI6 ⊢
            refine (turn_pub bs bd bl y c Dk 2 b' c.s.length c' (turnL c.s.length turn c.s.length) (6 * ((L.length + 2 : Nat) : Int)) w5 HJ6.out.st HOI6.out (by rw [turnL_length]; omega) (by decide) HJ6.out.inv.fine (by have := H20.out; push_cast; omega) HJ6.out.inv.lt12).mono ?_; rintro e w6 ⟨rfl, ht6, hd6⟩
            rw [HQ.out.2.1] at hd6 ⊢
            have HS6 : Hid (IsStore w6 bs bd bl y c D5) := Lib.hid (HJ6.out.st.put ht6 hd6)
            have HV7 := Lib.hid (ht6.heap HV6.out (HG.out _ HZ.out))
            have HOI7 := Lib.hid (HOI6.out.touch ht6 (fun k off e _ hk => by have := HOB.out k off e; have := HDB.out; omega))
            have HB7 := Lib.hid (HJ6.out.bel.trans (ht6.below HJ6.out.bel.size (fun k hk => HG.out k (by have := HZ.out; omega))))
            clear ht6 hd6 HJ6 HV6 HOI6
            go_wp2_with fail
            refine (turn_pub bs bd bl y c D5 3 none 0 0 [] (6 * ((L.length + 2 + 1 : Nat) : Int)) w6 HS6.out (IsI.nil _) (by decide) (by decide) HQ.out.2.2.1.fine (by have := H20.out; push_cast; omega) HQ.out.2.2.1.lt12).mono ?_; rintro e w7 ⟨rfl, ht7, hd7⟩
            rw [HQ.out.2.2.2.2.1] at hd7 ⊢
            have HS7 : Hid (IsStore w7 bs bd bl y c D5) := Lib.hid (HS6.out.put ht7 hd7)
            have HV8 := Lib.hid (ht7.heap HV7.out (HG.out _ HZ.out))
            have HOI8 := Lib.hid (HOI7.out.touch ht7 (fun k off e _ hk => by have := HOB.out k off e; have := HDB.out; omega))
            have HB8 := Lib.hid (HB7.out.trans (ht7.below HB7.out.size (fun k hk => HG.out k (by have := HZ.out; omega))))
            clear ht7 hd7 HS6 HV7 HOI7 HB7
            go_wp2_with fail
            refine (market_pub bs bd bl y c D5 w7 HS7.out (by omega) (by have := HM.out.r.2.1; omega)).mono ?_; rintro e w8 ⟨hmq, hb8⟩
            obtain ⟨xm, he, hmk⟩ : ∃ xm : MkA, e = .returned (.tuple #[.agg xm.cells.toArray, .int .i64 0]) ∧ IsMk w8 (fun k => w7.heap.size ≤ k) xm (mktC c D5) := by
              rcases hmq with ⟨h, _⟩ | ⟨_, h, _⟩ | ⟨_, _, xm, h1, h2⟩
              · exact absurd HQ.out.2.2.2.2.2.2.2 h
              · rw [HQ.out.2.2.2.2.2.1] at h; cases h
              · exact ⟨xm, h1, h2⟩
            subst he
            have hbA : Below w8.heap.size w8 (w8.alloc (.cells xm.cells.toArray 66 (0, 0))) := (Below.refl _ _).alloc (Nat.le_refl _) _
            have hb9 : Below w7.heap.size w7 (w8.alloc (.cells xm.cells.toArray 66 (0, 0))) := hb8.trans (hbA.mono hb8.size)
            have hbel : Below w.heap.size w (w8.alloc (.cells xm.cells.toArray 66 (0, 0))) := HB8.out.trans (hb9.mono HB8.out.size)
            have HF : Hid (FnS w c bs bd bl y D5 xm w8.heap.size ra rc b' c' turn #[.slice ra c.r.length rc, .slice sa c.s.length sc, .slice aa an ac, .slice ua un uc, .int .u64 (c.t : Int)] (w8.alloc (.cells xm.cells.toArray 66 (0, 0)))) := Lib.hid
              ⟨HS7.out.below hb9, (hmk.below hbA).imp (fun k hk => Nat.le_trans HB8.out.size hk), heap_new w8 _, below_heap hb9 HV8.out (lt_of_heap HV8.out), HOI8.out.below hb9, (HRI.out.below hbel).1, hbel⟩
            clear hbA hb9 hbel hmk hmq hb8 HS7 HV8 HOI8 HB8
            have hbn : xm.bn = c.s.length := by rw [HF.out.mkt.b.1]; exact bidsK_length _ _ _
            have hon : xm.on = c.s.length := by rw [HF.out.mkt.o.1.1]; show (ordL c.s.length D5).length = _; rw [HQ.out.2.2.2.2.2.2.1, turnL_length]
            have hrn : xm.rn = c.r.length := HF.out.mkt.r.1.1
            obtain ⟨ra', rn', rc', ba', bn', bc', bv', oa', on', oc'⟩ := xm
            dsimp only at hbn hon hrn
            subst hbn hon hrn
            have HMC := Lib.hid (fun W (hf : FnS w c bs bd bl y D5 ⟨ra', c.r.length, rc', ba', c.s.length, bc', bv', oa', c.s.length, oc'⟩ w8.heap.size ra rc b' c' turn #[.slice ra c.r.length rc, .slice sa c.s.length sc, .slice aa an ac, .slice ua un uc, .int .u64 (c.t : Int)] W) => mcheck_any _ _ _ W hf.mkt (by show c.r.length ≤ _; have := HM.out.r.2.1; omega))
            unfold MkA.cells at HF HMC ⊢
            dsimp only at HF HMC ⊢
            go_wp2_with (first
              | (refine wpList_load_mid rfl 66 (.tmp 15) rfl w8.heap.size 0 rfl [.slice ra' c.r.length rc', .slice ba' c.s.length bc', .slice oa' c.s.length oc'] _ (rangeAt_row HF.out.box) Tryz.underlying66 rfl info_mkt ?_)
              | fail)
            generalize (w8.alloc (.cells #[.slice ra' c.r.length rc', .slice ba' c.s.length bc', .slice oa' c.s.length oc'] 66 (0, 0))) = w9 at HF ⊢
            refine (HMC.out w9 HF.out).mono ?_; rintro e wA ⟨rfl, hbA⟩
            rw [HQ.out.2.2.2.2.2.1]
            have HFA := Lib.hid (HF.out.below hbA)
            have a0 : wA.cell? ⟨w8.heap.size, 0, none⟩ = some (.slice ra' c.r.length rc') := by rw [cell_of_block HFA.out.box]; rfl
            have a1 : wA.cell? ⟨w.heap.size, 0, none⟩ = some (.slice ra c.r.length rc) := by rw [cell_of_block HFA.out.cfg]; rfl
            clear hbA HF HMC
            go_wp2_with fail
            refine (sameI_any ra' ra c.r.length c.r.length rc' rc c.r c.r wA HFA.out.mkt.r.1 HFA.out.res).mono ?_; rintro e wB ⟨rfl, hbB⟩
            rw [show decide (c.r = c.r) = true from decide_eq_true rfl]
            have HFB := Lib.hid (HFA.out.below hbB)
            have b2 : wB.cell? ⟨w8.heap.size, 2, none⟩ = some (.slice oa' c.s.length oc') := by rw [cell_of_block HFB.out.box]; rfl
            clear hbB HFA a0 a1
            go_wp2_with fail
            have HOO := Lib.hid HFB.out.mkt.o.1
            have hoo : (mktC c D5).o = turnL c.s.length turn c.s.length := HQ.out.2.2.2.2.2.2.1
            rw [hoo] at HOO
            refine (sameI_any oa' b' c.s.length c.s.length oc' c' (turnL c.s.length turn c.s.length) (turnL c.s.length turn c.s.length) wB HOO.out HFB.out.ord).mono ?_; rintro e wC ⟨rfl, hbC⟩
            rw [show decide (turnL c.s.length turn c.s.length = turnL c.s.length turn c.s.length) = true from decide_eq_true rfl]
            have HFC := Lib.hid (HFB.out.below hbC)
            have g1 : wC.cell? ⟨w8.heap.size, 1, none⟩ = some (.slice ba' c.s.length bc') := by rw [cell_of_block HFC.out.box]; rfl
            clear hbC HFB b2 HOO hoo
            go_wp2_with fail
            clear g1
            obtain ⟨w3', rfl⟩ : ∃ w3', w3' = wr := ⟨_, rfl⟩
            obtain ⟨M2, hM2⟩ : ∃ M2, M2 = c.s.length := ⟨_, rfl⟩
            have HM2' := Lib.hid hM2
            clear hM2
            go_loopw [16] (fun i wq => ∃ j : Nat, j ≤ c.s.length ∧ i = .int .i64 j ∧ Hid (FnS w c bs bd bl y D5 ⟨ra', c.r.length, rc', ba', c.s.length, bc', bv', oa', c.s.length, oc'⟩ w8.heap.size ra rc b' c' turn #[.slice ra c.r.length rc, .slice sa c.s.length sc, .slice aa an ac, .slice ua un uc, .int .u64 (c.t : Int)] wq)) (fun i _ => M2 - (intOf i).toNat)
            case atStart => exact ⟨0, Nat.zero_le _, rfl, HFC⟩
            case round =>
              clear HFC
              obtain ⟨j, hj, rfl, HF⟩ := hrel
              by_cases hlt3 : j < c.s.length
              · have hrcf := fits_bid (rc_fits (HQ.out.2.2.1.rc j hlt3))
                go_wp2_with fail
                refine (record_ok bs bd bl y c D5 j wr HF.out.st hlt3 (by omega) (by have := HM.out.r.2.1; omega)).mono ?_; rintro e wD ⟨da, rfl, hbD, hnD⟩
                obtain ⟨mb, mo, mx, my, mz, rfl, hmlt, hmc, hmi⟩ := isII_cells HF.out.mkt.b j (by show j < (bidsK c.r.length D5 c.s.length).length; rw [bidsK_length]; exact hlt3)
                have hbj : ((mktC c D5).b)[j]'(by show j < (bidsK c.r.length D5 c.s.length).length; rw [bidsK_length]; exact hlt3) = (rcD c.r.length D5 j).1.bid := by simp [mktC, bidsK]
                rw [hbj] at hmi
                have HMI := Lib.hid hmi
                have HMC2 := Lib.hid hmc
                clear hbj hmi hmc
                obtain ⟨⟨⟨sq, st, l⟩, ok⟩, hrr⟩ : ∃ r, rcD c.r.length D5 j = r := ⟨_, rfl⟩
                rw [hrr] at hnD hrcf HMI ⊢
                dsimp only at hnD hrcf HMI ⊢
                have hbE : Below wr.heap.size wr (wD.alloc (.cells #[.int .u32 (sq : Int), .bool st, .slice da l.length l.length] 41 (0, 0))) := hbD.alloc hbD.size _
                have HFE := Lib.hid (HF.out.below hbE)
                have HNE := Lib.hid (hnD.isI.below ((Below.refl _ wD).alloc (Nat.le_refl _) (.cells #[.int .u32 (sq : Int), .bool st, .slice da l.length l.length] 41 (0, 0))))
                have HMIE := Lib.hid (HMI.out.below hbE)
                have HVE := Lib.hid (heap_new wD (.cells #[.int .u32 (sq : Int), .bool st, .slice da l.length l.length] 41 (0, 0)))
                have HCE : Hid ((wD.alloc (.cells #[.int .u32 (sq : Int), .bool st, .slice da l.length l.length] 41 (0, 0))).cell? ⟨mb, mo + j, none⟩ = some (.slice mx my mz)) := Lib.hid ((hbE.cell (p := ⟨mb, mo + j, none⟩) hmlt).trans HMC2.out)
                have HST2 := Lib.hid hrcf.2
                clear hbE hbD hnD HF HMI HMC2 hrr hrcf
                go_wp2_with fail
                generalize hwE : (wD.alloc (.cells #[.int .u32 (sq : Int), .bool st, .slice da l.length l.length] 41 (0, 0))) = wE at HFE HNE HMIE HVE HCE ⊢
                clear hwE
                have k1 : wE.cell? ⟨w8.heap.size, 1, none⟩ = some (.slice (some ⟨mb, mo, none⟩) c.s.length bc') := by rw [cell_of_block HFE.out.box]; rfl
                have k2 : wE.cell? ⟨mb, mo + j, none⟩ = some (.slice mx my mz) := HCE.out
                have k3 : wE.cell? ⟨wD.heap.size, 1, none⟩ = some (.bool st) := by rw [cell_of_block HVE.out]; rfl
                have k4 : wE.cell? ⟨wD.heap.size, 2, none⟩ = some (.slice da l.length l.length) := by rw [cell_of_block HVE.out]; rfl
                have z1 : wE.drew.cell? ⟨w8.heap.size, 1, none⟩ = some (.slice (some ⟨mb, mo, none⟩) c.s.length bc') := k1
                have z2 : wE.drew.cell? ⟨mb, mo + j, none⟩ = some (.slice mx my mz) := k2
                have z3 : wE.drew.cell? ⟨wD.heap.size, 1, none⟩ = some (.bool st) := k3
                have z4 : wE.drew.cell? ⟨wD.heap.size, 2, none⟩ = some (.slice da l.length l.length) := k4
                have hd0 : Below wE.heap.size wE wE.drew := (Below.refl _ _).drew
                have HCALL := Lib.hid (sameI_any mx da my l.length mz l.length l l wE.drew (HMIE.out.below hd0) (HNE.out.below hd0))
                have hst2 := HST2.out
                have hdc : (decide ((0 : Int) < (l.length : Int)) = st ∧ decide (0 < l.length) = st) := by
                  refine ⟨?_, hst2⟩
                  rw [← hst2]
                  by_cases h : 0 < l.length
                  · rw [decide_eq_true h]; exact decide_eq_true (by omega)
                  · rw [decide_eq_false h]; exact decide_eq_false (by omega)
                obtain ⟨dc1, dc2⟩ := hdc
                clear hst2 HST2
                go_region_held3 (fun w' => w'.cell? ⟨w8.heap.size, 1, none⟩ = some (.slice (some ⟨mb, mo, none⟩) c.s.length bc') ∧ w'.cell? ⟨mb, mo + j, none⟩ = some (.slice mx my mz) ∧ w'.cell? ⟨wD.heap.size, 1, none⟩ = some (.bool st) ∧ w'.cell? ⟨wD.heap.size, 2, none⟩ = some (.slice da l.length l.length)) (first
                    | with_reducible exact ⟨k1, k2, k3, k4⟩
                    | with_reducible exact ⟨z1, z2, z3, z4⟩
                    | with_reducible exact ⟨q1, q2, q3, q4⟩) (first
                  | (go_at_call 24; ((with_reducible refine HCALL.out.mono ?_); rintro e w5 ⟨rfl, hb5⟩; have hb5' : Below wE.heap.size wE w5 := hd0.trans (hb5.mono hd0.size); have q1 : w5.cell? ⟨w8.heap.size, 1, none⟩ = some (.slice (some ⟨mb, mo, none⟩) c.s.length bc') := cell_later hb5' k1; have q2 : w5.cell? ⟨mb, mo + j, none⟩ = some (.slice mx my mz) := cell_later hb5' k2; have q3 : w5.cell? ⟨wD.heap.size, 1, none⟩ = some (.bool st) := cell_later hb5' k3; have q4 : w5.cell? ⟨wD.heap.size, 2, none⟩ = some (.slice da l.length l.length) := cell_later hb5' k4))
                  | fail)
                all_goals
                  have HFG := Lib.hid (HFE.out.below hb5')
                  clear hb5 hb5' q1 q2 q3 q4 k1 k2 k3 k4 z1 z2 z3 z4 hd0 HCALL HFE HNE HMIE HVE HCE
                  go_wp2_with fail
                  go_roundw
                  case rel => exact ⟨j + 1, by omega, by go_num, HFG⟩
                  case measure => have := HM2'.out; simp [intOf]; omega
              · have hjj : j = c.s.length := by omega
                subst hjj
                go_wp2_with fail
                refine (lives_any wr).mono ?_; rintro e wF ⟨rfl, hbF⟩
                have HBF := Lib.hid (HF.out.bel.trans (hbF.mono HF.out.bel.size))
                clear hbF
                go_wp2_with fail
                go_ret
                exact ⟨rfl, HBF.out⟩

end Go.Proofs.YtggjhbpggddjmaaGreat
