/- The package slots: Put; conditions: those typed. -/
import Derived.Test.YthenakdfdpdknaaSlotsP
namespace Go.Proofs.Ythenakdfdpdknaa
open Go.RowKit
set_option linter.unusedVariables false

theorem put_nil (p : Int) (num : Nat) (a : Option Addr) (n c : Nat) (w : World) : Calls Try.prog 9 #[.pointer none, .int .i64 p, .int .u32 num, .slice a n c] w fun e w' => e = .returned (.int .i64 2) ∧ w = w' := by
  go_enter Try.func9, Try.ntmps9
  go_wp2_with (go_at_call 16; refine (no_nil _).mono ?_; rintro e w' ⟨rfl, rfl⟩)
  go_ret
  exact ⟨rfl, rfl⟩

theorem newestW_to (D : Dsk) (p : Nat) : (newestW D p).2 = p ∨ (newestW D p).2 = p + 6 := by
  unfold newestW
  split
  · exact .inl rfl
  · split
    · exact .inr rfl
    · exact .inl rfl
theorem newestW_lt {w : World} {bd bl : Nat} {D : Dsk} (h : IsDisk w bd bl D) (p : Nat) (hp : p + 12 ≤ D.secs.length) : (newestW D p).1.1 < 4294967296 := by
  have h1 := place_lt D p (secAt_length h _ (by omega))
  have h2 := place_lt D (p + 6) (secAt_length h _ (by omega))
  unfold newestW
  split
  · exact h2
  · split
    · exact h1
    · show 0 < 4294967296; decide

set_option maxRecDepth 100000 in
set_option maxHeartbeats 4000000 in
theorem put_any (bd bl : Nat) (D : Dsk) (p : Int) (num : Nat) (a : Option Addr) (n c : Nat) (b : List UInt8) (k : Int) (w : World) (h : IsDisk w bd bl D) (hb : IsB w a n c b) (hab : ∀ x off, a = some ⟨x, off, none⟩ → b ≠ [] → ¬ (x = bd ∨ x = bl)) (hk : D.fine k) (hk2 : k ≤ 100000000) (hn : num < 4294967296) :
    Calls Try.prog 9 #[.pointer (some ⟨bd, 0, none⟩), .int .i64 p, .int .u32 num, .slice a n c] w fun e w' => e = .returned (.int .i64 (D.put p num b).1) ∧ Touch (fun k => k = bd ∨ k = bl) w w' ∧ IsDisk w' bd bl (D.put p num b).2 := by
  obtain rfl := hb.1
  have hm := h.most
  have hp := h.pos
  by_cases hr : p < 0 ∨ (D.secs.length : Int) - 12 < p
  · have hpl : D.put p num b = (1, D) := if_pos hr
    rw [hpl]
    have d2 : decide (¬ (p < 0 ∨ (D.secs.length : Int) - 12 < p)) = false := decide_eq_false (fun h => h hr)
    clear hpl hab hb hk hk2 hr
    go_enter Try.func9, Try.ntmps9
    go_wp2_with (first
      | (go_at_call 16; refine (no_disk bd bl D _ h).mono ?_; rintro e w' ⟨rfl, rfl⟩)
      | (go_at_call 17; refine (there_slot bd bl D p _ h).mono ?_; rintro e w' ⟨rfl, rfl⟩; rw [d2])
      | fail)
    go_ret
    exact ⟨rfl, Touch.refl _ _, h⟩
  have d2 : decide (¬ (p < 0 ∨ (D.secs.length : Int) - 12 < p)) = true := decide_eq_true hr
  by_cases hl : 320 < b.length
  · have hpl : D.put p num b = (3, D) := by unfold Dsk.put; rw [if_neg hr, if_pos hl]
    rw [hpl]
    have d3 : decide ((320 : Int) < (b.length : Int)) = true := decide_eq_true (by omega)
    clear hpl hab hb hk hk2 hr hl
    go_enter Try.func9, Try.ntmps9
    go_wp2_with (first
      | (go_at_call 16; refine (no_disk bd bl D _ h).mono ?_; rintro e w' ⟨rfl, rfl⟩)
      | (go_at_call 17; refine (there_slot bd bl D p _ h).mono ?_; rintro e w' ⟨rfl, rfl⟩; rw [d2])
      | fail)
    go_ret
    exact ⟨rfl, Touch.refl _ _, h⟩
  have d3 : decide ((320 : Int) < (b.length : Int)) = false := decide_eq_false (by omega)
  obtain ⟨q, rfl⟩ : ∃ q : Nat, p = (q : Int) := ⟨p.toNat, by omega⟩
  have hq : q + 12 ≤ D.secs.length := by omega
  obtain ⟨R, hR⟩ : ∃ R, R = D.put (q : Int) num b := ⟨_, rfl⟩
  rw [← hR]
  have HPUT : Hid (R = if num ≤ (newestW D q).1.1 then (10, D) else
      if (wrs D (newestW D q).2 b (secsOf b)).1 ≠ 0 then (8, (wrs D (newestW D q).2 b (secsOf b)).2) else
      if ((wrs D (newestW D q).2 b (secsOf b)).2.write ((newestW D q).2 + 5 : Nat) (mkB num b)).1 ≠ 0 then (8, ((wrs D (newestW D q).2 b (secsOf b)).2.write ((newestW D q).2 + 5 : Nat) (mkB num b)).2) else
      (0, ((wrs D (newestW D q).2 b (secsOf b)).2.write ((newestW D q).2 + 5 : Nat) (mkB num b)).2)) := Lib.hid (by rw [hR]; unfold Dsk.put; rw [if_neg hr, if_neg hl]; rfl)
  have hto := newestW_to D q
  have hlt := newestW_lt h q hq
  clear hr hp hR
  have HNEW : Hid (∀ w, IsDisk w bd bl D → Calls Try.prog 18 #[.pointer (some ⟨bd, 0, none⟩), .int .i64 (q : Int)] w fun e w' => ∃ a c, e = .returned (.tuple #[.agg #[.int .u32 (newestW D q).1.1, .slice a (newestW D q).1.2.length c], .int .i64 (newestW D q).2]) ∧ Below w.heap.size w w' ∧ IsB w' a (newestW D q).1.2.length c (newestW D q).1.2) := Lib.hid (fun w h => newest_any bd bl D q (q : Int) w h rfl hq)
  generalize newestW D q = x at HPUT hto hlt HNEW
  obtain ⟨⟨xn, xb⟩, to⟩ := x
  dsimp only at HPUT hto hlt HNEW
  have hlt' : xn < 4294967296 := hlt
  have hto' : to ≤ q + 6 := by rcases hto with h | h <;> omega
  have HTO := Lib.hid hto'
  have HQ := Lib.hid hq
  clear hto hlt
  go_enter Try.func9, Try.ntmps9
  go_wp2_with (first
    | (go_at_call 16; refine (no_disk bd bl D _ h).mono ?_; rintro e w' ⟨rfl, rfl⟩)
    | (go_at_call 17; refine (there_slot bd bl D _ _ h).mono ?_; rintro e w' ⟨rfl, rfl⟩; rw [d2])
    | fail)
  refine (HNEW.out w h).mono ?_; rintro e w1 ⟨xa, xc, rfl, hb1, hi1⟩
  dsimp only at hi1 ⊢
  have hbe : Below w.heap.size w (w1.alloc (.cells #[.int .u32 xn, .slice xa xb.length xc] 52)) := hb1.alloc hb1.size _
  have hv := heap_new w1 (.cells #[.int .u32 xn, .slice xa xb.length xc] 52 (0, 0))
  have hw1s := hb1.size
  by_cases hold : num ≤ xn
  · have d4 : decide (num ≤ xn) = true := decide_eq_true hold
    have HR : Hid (R = (10, D)) := Lib.hid (by rw [HPUT.out, if_pos hold])
    have hd2 := h.touch (Touch.of_below (S := fun _ => False) hbe) id id
    have ht2 : Touch (fun k => k = bd ∨ k = bl) w (w1.alloc (.cells #[.int .u32 xn, .slice xa xb.length xc] 52)) := Touch.of_below hbe
    clear HPUT hi1 hb1 hold hab hb hk hbe
    go_wp2_with fail
    go_ret
    rw [HR.out]
    exact ⟨rfl, ht2, hd2⟩
  have d4 : decide (num ≤ xn) = false := decide_eq_false hold
  have HR : Hid (R = if (wrs D to b (secsOf b)).1 ≠ 0 then (8, (wrs D to b (secsOf b)).2) else
      if ((wrs D to b (secsOf b)).2.write (to + 5 : Nat) (mkB num b)).1 ≠ 0 then (8, ((wrs D to b (secsOf b)).2.write (to + 5 : Nat) (mkB num b)).2) else
      (0, ((wrs D to b (secsOf b)).2.write (to + 5 : Nat) (mkB num b)).2)) := Lib.hid (by rw [HPUT.out, if_neg hold])
  clear HPUT hi1 hb1 hold
  go_wp2_with fail
  have hd2 := h.touch (Touch.of_below (S := fun _ => False) hbe) id id
  have hb2 := hb.below hbe
  have ht2 : Touch (fun k => k = bd ∨ k = bl) w (w1.alloc (.cells #[.int .u32 xn, .slice xa xb.length xc] 52)) := Touch.of_below hbe
  generalize w1.alloc (.cells #[.int .u32 xn, .slice xa xb.length xc] 52) = w2 at hd2 hb2 ht2 ⊢
  clear hv hbe h hb HNEW
  obtain ⟨N, hN⟩ : ∃ N, N = b.length + 64 := ⟨_, rfl⟩
  have HN := Lib.hid hN
  clear hN
  have HAB := Lib.hid hab
  clear hab
  go_loopw [11] (fun i wr => ∃ j qq : Nat, Hid (qq = 64 * j) ∧ j ≤ secsOf b ∧ i = .int .i64 qq ∧ Hid ((wrs D to b j).1 = 0) ∧ Hid (IsDisk wr bd bl (wrs D to b j).2) ∧ Hid (Touch (fun k => k = bd ∨ k = bl) w wr) ∧ Hid (IsB wr a b.length c b)) (fun i _ => N - (intOf i).toNat)
  case atStart => exact ⟨0, 0, Lib.hid rfl, Nat.zero_le _, rfl, Lib.hid rfl, Lib.hid hd2, Lib.hid ht2, Lib.hid hb2⟩
  case round =>
    obtain ⟨j, qq, hqq, hj, rfl, he, hd, ht, hbb⟩ := hrel
    have hsec : secsOf b * 64 ≤ b.length + 63 := by unfold secsOf; omega
    have hqb : qq ≤ 384 := by have := hqq.out; omega
    by_cases hlt : qq < b.length
    · obtain ⟨r, hr1, hr64, hra, hrb, hrc⟩ : ∃ r, qq + r ≤ b.length ∧ r ≤ 64 ∧ ((b.length : Int) ≤ (qq : Int) + 64 → b.length - qq = r) ∧ ((qq : Int) + 64 < (b.length : Int) → ((qq : Int) + 64).toNat - qq = r) ∧ chunk b j = (b.drop qq).take r := by
        by_cases h1 : b.length ≤ qq + 64
        · refine ⟨b.length - qq, by omega, by omega, fun _ => rfl, fun h => by omega, ?_⟩
          unfold chunk
          rw [← hqq.out, List.take_of_length_le (by simp; omega), List.take_of_length_le (by simp)]
        · refine ⟨64, by omega, by omega, fun h => by omega, fun h => by omega, ?_⟩
          unfold chunk
          rw [← hqq.out]
      obtain ⟨ab, ao, rfl⟩ := hbb.out.nonnil (by omega)
      have hcl : b.length ≤ c := hbb.out.2.1
      have hsub := hbb.out.sub qq r (c - qq) hr1 (by omega) (by omega)
      have hjs : j < secsOf b := by unfold secsOf; have := hqq.out; omega
      have HRC := Lib.hid hrc
      clear hrc
      have hqd : (to : Int) + (qq : Int) / 64 = ((to + j : Nat) : Int) := by have := hqq.out; omega
      have HQD := Lib.hid hqd
      have HRA := Lib.hid hra
      have HRB := Lib.hid hrb
      have hfj := wrs_fine hk to b j
      have hsec5 : secsOf b ≤ 6 := by unfold secsOf; omega
      have hok := hfj.ok (by omega)
      have hb1 : Hid (wrs D to b (j + 1) = (wrs D to b j).2.write ((to + j : Nat) : Int) (chunk b j)) := Lib.hid (if_neg (fun h => h he.out))
      have HOK := Lib.hid hok
      clear hqd hra hrb hfj hok
      go_wp2_with fail
      all_goals
        rw [HQD.out]
        first
          | rw [HRA.out (by omega)]
          | rw [HRB.out (by omega)]
        refine (write_any bd bl (wrs D to b j).2 ((to + j : Nat) : Int) _ r (c - qq) (chunk b j) wr hd.out (by rw [HRC.out]; exact hsub) HOK.out).mono ?_; rintro e w3 ⟨rfl, ht3, hd3⟩
        rw [← hb1.out] at hd3 ⊢
        have ht3' := ht.out.trans ht3
        have hb3 := hbb.out.touch ht3 (fun x off h hl => HAB.out x off h hl)
        by_cases he1 : (wrs D to b (j + 1)).1 = 0
        · have hd1 : ((wrs D to b (j + 1)).1 != 0) = false := by rw [he1]; rfl
          have HE1 := Lib.hid he1
          clear he1
          go_wp2_with fail
          go_roundw
          case rel => exact ⟨j + 1, qq + 64, Lib.hid (by have := hqq.out; omega), by omega, by go_num, HE1, Lib.hid hd3, Lib.hid ht3', Lib.hid hb3⟩
          case measure => have := HN.out; simp [intOf]; omega
        · have hd1 : ((wrs D to b (j + 1)).1 != 0) = true := by rw [bne_iff_ne]; exact he1
          have HE1 := Lib.hid he1
          obtain ⟨i, hi⟩ : ∃ i, secsOf b = j + 1 + i := ⟨secsOf b - (j + 1), by omega⟩
          have hst := wrs_stuck D to b (j + 1) i he1
          rw [← hi] at hst
          have HRR : Hid (R = (8, (wrs D to b (j + 1)).2)) := Lib.hid (by rw [HR.out, if_pos (by rw [hst]; exact HE1.out), hst])
          clear he1 hst hi
          go_wp2_with fail
          go_ret
          rw [HRR.out]
          exact ⟨rfl, ht3', hd3⟩
    · have hjj : j = secsOf b := by unfold secsOf at hj ⊢; have := hqq.out; omega
      subst hjj
      have hfj := wrs_fine hk to b (secsOf b)
      have hsec5 : secsOf b ≤ 6 := by unfold secsOf; omega
      have HOK := Lib.hid (hfj.ok (by omega))
      have ht5 : (to : Int) + 5 = ((to + 5 : Nat) : Int) := by omega
      have HT5 := Lib.hid ht5
      have HE := he
      clear hfj ht5 hqq hj hsec
      generalize hjj : secsOf b = J at HE hd HOK hsec5
      rw [hjj] at HR he
      clear hjj he
      go_wp2_with (first
        | (go_at_call 20; refine (mark_any num hn a b.length c b wr hbb.out (by omega)).mono ?_; rintro e w3 ⟨ma, rfl, hb3, hi3⟩)
        | fail)
      have hd3 := hd.out.touch (Touch.of_below (S := fun _ => False) hb3) id id
      have ht3 := ht.out.trans (Touch.of_below hb3)
      rw [HT5.out]
      refine (write_any bd bl (wrs D to b J).2 ((to + 5 : Nat) : Int) ma 10 10 (mkB num b) w3 hd3 hi3 HOK.out).mono ?_; rintro e w4 ⟨rfl, ht4, hd4⟩
      have ht4' := ht3.trans ht4
      generalize ((wrs D to b J).2.write ((to + 5 : Nat) : Int) (mkB num b)) = W at hd4 HR ⊢
      have hneg : ¬ (wrs D to b J).1 ≠ 0 := fun h => h HE.out
      by_cases he1 : W.1 = 0
      · have hd1 : (W.1 != 0) = false := by rw [he1]; rfl
        have HRR : Hid (R = (0, W.2)) := Lib.hid (by rw [HR.out, if_neg hneg, if_neg (by rw [he1]; simp)])
        clear he1 hneg
        go_wp2_with fail
        go_ret
        rw [HRR.out]
        exact ⟨rfl, ht4', hd4⟩
      · have hd1 : (W.1 != 0) = true := by rw [bne_iff_ne]; exact he1
        have HRR : Hid (R = (8, W.2)) := Lib.hid (by rw [HR.out, if_neg hneg, if_pos he1])
        clear he1 hneg
        go_wp2_with fail
        go_ret
        rw [HRR.out]
        exact ⟨rfl, ht4', hd4⟩

end Go.Proofs.Ythenakdfdpdknaa
