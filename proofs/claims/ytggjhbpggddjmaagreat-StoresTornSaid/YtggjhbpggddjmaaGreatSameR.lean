/- The statements' helpers SameRecord, SameIntLists, SameMarket; slices.Clone and Clip at numbers; conditions: those typed. -/
import Derived.Test.YtggjhbpggddjmaaGreatMChk
import Derived.Test.YtggjhbpggddjmaaGreatStTR
namespace Go.Proofs.YtggjhbpggddjmaaGreat
open Go.RowKit
set_option linter.unusedVariables false
set_option linter.unusedSimpArgs false

instance : DecidableEq StR := fun a b => decidable_of_iff (a.seq = b.seq ∧ a.stands = b.stands ∧ a.bid = b.bid) ⟨fun ⟨h1, h2, h3⟩ => by cases a; cases b; simp_all, fun h => by subst h; exact ⟨rfl, rfl, rfl⟩⟩
instance : DecidableEq MkC := fun a b => decidable_of_iff (a.r = b.r ∧ a.b = b.b ∧ a.o = b.o) ⟨fun ⟨h1, h2, h3⟩ => by cases a; cases b; simp_all, fun h => by subst h; exact ⟨rfl, rfl, rfl⟩⟩
theorem below_drewN' (w : World) (j : Nat) : Below w.heap.size w (w.drewN j) := below_drewN (Below.refl _ _) j
theorem sameI_any (a b : Option Addr) (n m c d : Nat) (l k : List Int) (w : World) (hl : IsI w a n c l) (hk : IsI w b m d k) :
    Calls Tryz.prog 24 #[.slice a n c, .slice b m d] w fun e w' => e = .returned (.bool (decide (l = k))) ∧ Below w.heap.size w w' :=
  (same_any a b n m c d l k w hl hk).mono fun e w' ⟨h1, j, h2⟩ => ⟨h1, by rw [h2]; exact below_drewN' w j⟩

set_option maxRecDepth 100000 in
set_option maxHeartbeats 4000000 in
theorem sameR_core (s1 s2 : Int) (st1 st2 : Bool) (b1 b2 : Bool) (q1 : (s1 == s2) = b1) (q2 : (st1 == st2) = b2) (a1 a2 : Option Addr) (n1 n2 c1 c2 : Nat) (l1 l2 : List Int) (w : World) (h1 : IsI w a1 n1 c1 l1) (h2 : IsI w a2 n2 c2 l2) :
    Calls Tryz.prog 21 #[.agg #[.int .u32 s1, .bool st1, .slice a1 n1 c1], .agg #[.int .u32 s2, .bool st2, .slice a2 n2 c2]] w fun e w' => e = .returned (.bool (b1 && (b2 && decide (l1 = l2)))) ∧ Below w.heap.size w w' := by
  obtain ⟨hb0, _, _⟩ := alloc2_facts w (.cells #[.int .u32 s1, .bool st1, .slice a1 n1 c1] 41 (0, 0)) (.cells #[.int .u32 s2, .bool st2, .slice a2 n2 c2] 41 (0, 0))
  have H1 := Lib.hid (h1.below hb0)
  have H2 := Lib.hid (h2.below hb0)
  have HB := Lib.hid hb0
  clear h1 h2 hb0
  go_enter Tryz.func21, Tryz.ntmps21
  cases b1 with
  | false =>
    go_wp2_with fail
    go_ret
    exact ⟨rfl, HB.out⟩
  | true =>
    cases b2 with
    | false =>
      go_wp2_with fail
      go_ret
      exact ⟨rfl, HB.out⟩
    | true =>
      obtain rfl : s1 = s2 := eq_of_beq q1
      obtain rfl : st1 = st2 := eq_of_beq q2
      go_wp2_with fail
      refine (sameI_any a1 a2 n1 n2 c1 c2 l1 l2 _ H1.out H2.out).mono ?_; rintro e w1 ⟨rfl, hb1⟩
      have HB1 := Lib.hid (HB.out.trans (hb1.mono HB.out.size))
      clear hb1
      generalize hq : decide (l1 = l2) = q
      have HQ := Lib.hid hq
      clear hq
      go_wp2_with fail
      go_ret
      exact ⟨by rw [HQ.out]; simp, HB1.out⟩
theorem sameR_any (sq1 sq2 : Nat) (st1 st2 : Bool) (a1 a2 : Option Addr) (n1 n2 c1 c2 : Nat) (l1 l2 : List Int) (w : World) (h1 : IsI w a1 n1 c1 l1) (h2 : IsI w a2 n2 c2 l2) :
    Calls Tryz.prog 21 #[.agg #[.int .u32 sq1, .bool st1, .slice a1 n1 c1], .agg #[.int .u32 sq2, .bool st2, .slice a2 n2 c2]] w fun e w' => e = .returned (.bool (decide ((⟨sq1, st1, l1⟩ : StR) = ⟨sq2, st2, l2⟩))) ∧ Below w.heap.size w w' := by
  have hd : decide ((⟨sq1, st1, l1⟩ : StR) = ⟨sq2, st2, l2⟩) = (((sq1 : Int) == (sq2 : Int)) && ((st1 == st2) && decide (l1 = l2))) := by
    rw [Bool.eq_iff_iff]
    simp only [decide_eq_true_eq, StR.mk.injEq, Bool.and_eq_true, beq_iff_eq, Int.natCast_inj]
  rw [hd]
  exact sameR_core (sq1 : Int) (sq2 : Int) st1 st2 _ _ rfl rfl a1 a2 n1 n2 c1 c2 l1 l2 w h1 h2

theorem isII_cells {w : World} {P : Nat → Prop} {a : Option Addr} {n c : Nat} {vs : List Value} {L : List (List Int)} (h : IsIIp w P a n c vs L) (k : Nat) (hk : k < L.length) : ∃ b off x y z, a = some ⟨b, off, none⟩ ∧ b < w.heap.size ∧ w.cell? ⟨b, off + k, none⟩ = some (.slice x y z) ∧ IsI w x y z L[k] := by
  obtain ⟨h0, h1, h2, hv, hc⟩ := h
  rcases hc with h0 | ⟨b, off, rfl, _, hlt, hc⟩
  · rw [h0] at hk; simp at hk
  · obtain ⟨x, y, z, h3, h4⟩ := hv.2 k hk
    have hkv : k < vs.length := by rw [hv.1]; exact hk
    rw [List.getElem?_eq_getElem hkv] at h3
    have := hc k hkv
    rw [Option.some.inj h3] at this
    exact ⟨b, off, x, y, z, rfl, hlt, this, h4.1⟩

set_option maxRecDepth 100000 in
set_option maxHeartbeats 4000000 in
theorem sameII_any (P Q : Nat → Prop) (a b : Option Addr) (n m c d : Nat) (vs us : List Value) (L K : List (List Int)) (w : World) (hL : IsIIp w P a n c vs L) (hK : IsIIp w Q b m d us K) :
    Calls Tryz.prog 54 #[.slice a n c, .slice b m d] w fun e w' => e = .returned (.bool (decide (L = K))) ∧ Below w.heap.size w w' := by
  have HL := Lib.hid (isII_cells hL)
  have HK := Lib.hid (isII_cells hK)
  have hm : L.length ≤ 9223372036854775807 := by have := hL.2.1; have := hL.2.2.1; unfold maxLen at this; omega
  obtain rfl := hL.1
  obtain rfl := hK.1
  clear hL hK
  go_enter Tryz.func54, Tryz.ntmps54
  by_cases hlk : L.length = K.length
  case neg =>
    have d1 : ((L.length : Int) != (K.length : Int)) = true := by rw [bne_iff_ne]; omega
    have HQ : Hid (decide (L = K) = false) := Lib.hid (decide_eq_false (fun e => hlk (by rw [e])))
    clear hlk
    go_wp2_with fail
    go_ret
    exact ⟨by rw [HQ.out]; rfl, Below.refl _ _⟩
  case pos =>
    have HLK := Lib.hid hlk
    have d1 : ((L.length : Int) != (K.length : Int)) = false := by rw [bne_eq_false_iff_eq]; omega
    clear hlk
    go_wp2_with fail
    obtain ⟨N, hN⟩ : ∃ N, N = L.length := ⟨_, rfl⟩
    have HN := Lib.hid hN
    clear hN d1
    go_loopw [5] (fun i wr => ∃ k : Nat, k ≤ L.length ∧ i = .int .i64 k ∧ Hid (Below w.heap.size w wr ∧ L.take k = K.take k)) (fun i _ => N - (intOf i).toNat)
    case atStart => exact ⟨0, Nat.zero_le _, rfl, Lib.hid ⟨Below.refl _ _, by simp⟩⟩
    case round =>
      obtain ⟨k, hk, rfl, HS⟩ := hrel
      by_cases hlt : k < L.length
      · have hkk : k < K.length := by rw [← HLK.out]; exact hlt
        obtain ⟨b1, o1, x1, y1, z1, rfl, hb1, hc1, hi1⟩ := HL.out k hlt
        obtain ⟨b2, o2, x2, y2, z2, rfl, hb2, hc2, hi2⟩ := HK.out k hkk
        have e1 : wr.cell? ⟨b1, o1 + k, none⟩ = some (.slice x1 y1 z1) := (HS.out.1.cell (p := ⟨b1, o1 + k, none⟩) hb1).trans hc1
        have e2 : wr.cell? ⟨b2, o2 + k, none⟩ = some (.slice x2 y2 z2) := (HS.out.1.cell (p := ⟨b2, o2 + k, none⟩) hb2).trans hc2
        have g1 : wr.drew.cell? ⟨b1, o1 + k, none⟩ = some (.slice x1 y1 z1) := e1
        have g2 : wr.drew.cell? ⟨b2, o2 + k, none⟩ = some (.slice x2 y2 z2) := e2
        have hdw : Below w.heap.size w wr.drew := HS.out.1.drew
        have HCALL := Lib.hid (sameI_any x1 x2 y1 y2 z1 z2 L[k] K[k] wr.drew (hi1.below hdw) (hi2.below hdw))
        have HSUC : Hid (L[k] = K[k] → L.take (k + 1) = K.take (k + 1)) := Lib.hid (fun e => by rw [List.take_succ_eq_append_getElem hlt, List.take_succ_eq_append_getElem hkk, HS.out.2, e])
        have HNE : Hid (L[k] ≠ K[k] → decide (L = K) = false) := Lib.hid (fun h => decide_eq_false (fun e => h (by subst e; rfl)))
        have HDW := Lib.hid hdw
        clear hc1 hi1 hc2 hi2 hdw
        generalize L[k] = p at HCALL HSUC HNE
        generalize K[k] = q at HCALL HSUC HNE
        go_wp2_with fail
        go_region_law (first
          | (go_simp; go_at_call 24; refine HCALL.out.mono ?_; rintro e w1 ⟨rfl, hbb⟩)
          | fail)
        all_goals
          have HB1 := Lib.hid (HDW.out.trans (hbb.mono HDW.out.size))
          clear hbb HCALL e1 e2 g1 g2
          by_cases hpq : p = q
          · have hd : decide (p = q) = true := decide_eq_true hpq
            have HS2 : Hid (Below w.heap.size w w1 ∧ L.take (k + 1) = K.take (k + 1)) := Lib.hid ⟨HB1.out, HSUC.out hpq⟩
            rw [hd]
            clear hd hpq
            go_wp2_with fail
            go_roundw
            case rel => exact ⟨k + 1, by omega, by go_num, HS2⟩
            case measure => have := HN.out; simp [intOf]; omega
          · have hd : decide (p = q) = false := decide_eq_false hpq
            have HQ := Lib.hid (HNE.out hpq)
            rw [hd]
            clear hd hpq
            go_wp2_with fail
            go_ret
            exact ⟨by rw [HQ.out]; rfl, HB1.out⟩
      · have hkk : k = L.length := by omega
        subst hkk
        have HQ : Hid (decide (L = K) = true) := Lib.hid (decide_eq_true (by
          have h := HS.out.2
          rw [List.take_length, HLK.out, List.take_length] at h
          exact h))
        go_wp2_with fail
        go_ret
        exact ⟨by rw [HQ.out]; rfl, HS.out.1⟩

set_option maxRecDepth 100000 in
set_option maxHeartbeats 4000000 in
theorem sameM_any (P Q : Nat → Prop) (x y : MkA) (m k : MkC) (w : World) (hx : IsMk w P x m) (hy : IsMk w Q y k) :
    Calls Tryz.prog 27 #[.agg x.cells.toArray, .agg y.cells.toArray] w fun e w' => e = .returned (.bool (decide (m = k))) ∧ Below w.heap.size w w' := by
  obtain ⟨ra, rn, rc, ba, bn, bc, bv, oa, on, oc⟩ := x
  obtain ⟨ra', rn', rc', ba', bn', bc', bv', oa', on', oc'⟩ := y
  obtain ⟨r, b, o⟩ := m
  obtain ⟨r', b', o'⟩ := k
  have hd : decide ((⟨r, b, o⟩ : MkC) = ⟨r', b', o'⟩) = (decide (r = r') && (decide (b = b') && decide (o = o'))) := by
    rw [Bool.eq_iff_iff]
    simp only [decide_eq_true_eq, MkC.mk.injEq, Bool.and_eq_true]
  unfold MkA.cells
  dsimp only at *
  obtain ⟨hb0, m0, m1⟩ := alloc2_facts w (.cells #[.slice ra rn rc, .slice ba bn bc, .slice oa on oc] 66 (0, 0)) (.cells #[.slice ra' rn' rc', .slice ba' bn' bc', .slice oa' on' oc'] 66 (0, 0))
  have HX := Lib.hid (hx.below hb0)
  have HY := Lib.hid (hy.below hb0)
  have HD := Lib.hid hd
  clear hx hy hd
  go_enter Tryz.func27, Tryz.ntmps27
  go_wp2_with fail
  generalize ((w.alloc (.cells #[.slice ra rn rc, .slice ba bn bc, .slice oa on oc] 66)).alloc (.cells #[.slice ra' rn' rc', .slice ba' bn' bc', .slice oa' on' oc'] 66)) = W at hb0 m0 m1 HX HY ⊢
  have x0 : W.cell? ⟨w.heap.size, 0, none⟩ = some (.slice ra rn rc) := by rw [cell_of_block m0]; rfl
  have y0 : W.cell? ⟨w.heap.size + 1, 0, none⟩ = some (.slice ra' rn' rc') := by rw [cell_of_block m1]; rfl
  have HM0 := Lib.hid m0
  have HM1 := Lib.hid m1
  have HB := Lib.hid hb0
  clear hb0 m0 m1
  go_wp2_with fail
  refine (sameI_any ra ra' rn rn' rc rc' r r' W HX.out.r.1 HY.out.r.1).mono ?_; rintro e w1 ⟨rfl, hb1⟩
  have HB1 := Lib.hid (HB.out.trans (hb1.mono HB.out.size))
  have HX1 := Lib.hid (HX.out.below hb1)
  have HY1 := Lib.hid (HY.out.below hb1)
  have n0 := below_heap hb1 HM0.out (lt_of_heap HM0.out)
  have n1 := below_heap hb1 HM1.out (lt_of_heap HM1.out)
  have x1 : w1.cell? ⟨w.heap.size, 1, none⟩ = some (.slice ba bn bc) := by rw [cell_of_block n0]; rfl
  have y1 : w1.cell? ⟨w.heap.size + 1, 1, none⟩ = some (.slice ba' bn' bc') := by rw [cell_of_block n1]; rfl
  have HN0 := Lib.hid n0
  have HN1 := Lib.hid n1
  clear hb1 HB HX HY HM0 HM1 n0 n1 x0 y0
  by_cases q1 : r = r'
  case neg =>
    have HQ : Hid (decide ((⟨r, b, o⟩ : MkC) = ⟨r', b', o'⟩) = false) := Lib.hid (by rw [HD.out, decide_eq_false q1]; rfl)
    have d1 : decide (r = r') = false := decide_eq_false q1
    rw [d1]
    clear d1 q1
    go_wp2_with fail
    go_ret
    exact ⟨by rw [HQ.out]; rfl, HB1.out⟩
  case pos =>
    have HQ1 : Hid (decide ((⟨r, b, o⟩ : MkC) = ⟨r', b', o'⟩) = (decide (b = b') && decide (o = o'))) := Lib.hid (by rw [HD.out, decide_eq_true q1]; rfl)
    have d1 : decide (r = r') = true := decide_eq_true q1
    rw [d1]
    clear d1 q1
    go_wp2_with fail
    refine (sameII_any P Q ba ba' bn bn' bc bc' bv bv' b b' w1 HX1.out.b HY1.out.b).mono ?_; rintro e w2 ⟨rfl, hb2⟩
    have HB2 := Lib.hid (HB1.out.trans (hb2.mono HB1.out.size))
    have HX2 := Lib.hid (HX1.out.below hb2)
    have HY2 := Lib.hid (HY1.out.below hb2)
    have n0 := below_heap hb2 HN0.out (lt_of_heap HN0.out)
    have n1 := below_heap hb2 HN1.out (lt_of_heap HN1.out)
    have x2 : w2.cell? ⟨w.heap.size, 2, none⟩ = some (.slice oa on oc) := by rw [cell_of_block n0]; rfl
    have y2 : w2.cell? ⟨w.heap.size + 1, 2, none⟩ = some (.slice oa' on' oc') := by rw [cell_of_block n1]; rfl
    clear hb2 HB1 HX1 HY1 HN0 HN1 n0 n1 x1 y1
    by_cases q2 : b = b'
    case neg =>
      have HQ : Hid (decide ((⟨r, b, o⟩ : MkC) = ⟨r', b', o'⟩) = false) := Lib.hid (by rw [HQ1.out, decide_eq_false q2]; rfl)
      have d1 : decide (b = b') = false := decide_eq_false q2
      rw [d1]
      clear d1 q2
      go_wp2_with fail
      go_ret
      exact ⟨by rw [HQ.out]; rfl, HB2.out⟩
    case pos =>
      have HQ2 : Hid (decide ((⟨r, b, o⟩ : MkC) = ⟨r', b', o'⟩) = decide (o = o')) := Lib.hid (by rw [HQ1.out, decide_eq_true q2]; rfl)
      have d1 : decide (b = b') = true := decide_eq_true q2
      rw [d1]
      clear d1 q2
      go_wp2_with fail
      refine (sameI_any oa oa' on on' oc oc' o o' w2 HX2.out.o.1 HY2.out.o.1).mono ?_; rintro e w3 ⟨rfl, hb3⟩
      have HB3 := Lib.hid (HB2.out.trans (hb3.mono HB2.out.size))
      clear hb3
      generalize hq : decide (o = o') = q at HQ2 ⊢
      clear hq
      go_wp2_with fail
      go_ret
      exact ⟨by rw [HQ2.out]; rfl, HB3.out⟩

end Go.Proofs.YtggjhbpggddjmaaGreat
