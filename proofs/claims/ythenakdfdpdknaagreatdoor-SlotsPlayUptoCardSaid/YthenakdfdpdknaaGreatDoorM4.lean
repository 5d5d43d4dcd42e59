/- The package slots: Put; conditions: those typed. -/
import Derived.Test.YthenakdfdpdknaaGreatDoorM3
import Derived.Deep.RegionHeld3
import Derived.Laws.BytesArg
import Derived.Laws.IdiomStrings
namespace Go.Proofs.YthenakdfdpdknaaGreatDoor
open Go.RowKit
set_option linter.unusedVariables false

def Dsk.fine (D : Dsk) (k : Int) : Prop := 0 ≤ D.writes ∧ D.writes ≤ k ∧ D.left ≤ 4294967296
theorem Dsk.fine.ok {D : Dsk} {k : Int} (h : D.fine k) (hk : k ≤ 1000000000) : D.ok := ⟨h.1, by have := h.2.1; omega, by have := h.2.2; omega⟩
theorem Dsk.fine.write {D : Dsk} {k : Int} (h : D.fine k) (n : Int) (b : List UInt8) : (D.write n b).2.fine (k + 1) := by
  obtain ⟨h1, h2, h3⟩ := h
  unfold Dsk.write
  split
  · exact ⟨h1, by dsimp only; omega, h3⟩
  · split
    · exact ⟨h1, by dsimp only; omega, h3⟩
    · refine ⟨by dsimp only; omega, by dsimp only; omega, ?_⟩
      dsimp only
      split <;> omega
theorem Dsk.fine.mono {D : Dsk} {k k' : Int} (h : D.fine k) (hk : k ≤ k') : D.fine k' := ⟨h.1, Int.le_trans h.2.1 hk, h.2.2⟩
theorem Dsk.write_len (D : Dsk) (n : Int) (b : List UInt8) : (D.write n b).2.secs.length = D.secs.length := by
  unfold Dsk.write
  split
  · rfl
  · split
    · rfl
    · simp

def chunk (b : List UInt8) (j : Nat) : List UInt8 := (b.drop (64 * j)).take 64
/-- The first j sectors of a record are written; the first error stands. -/
def wrs (D : Dsk) (to : Nat) (b : List UInt8) : Nat → Int × Dsk
  | 0 => (0, D)
  | j + 1 => if (wrs D to b j).1 ≠ 0 then wrs D to b j else (wrs D to b j).2.write ((to + j : Nat) : Int) (chunk b j)
theorem wrs_stuck (D : Dsk) (to : Nat) (b : List UInt8) (j i : Nat) (h : (wrs D to b j).1 ≠ 0) : wrs D to b (j + i) = wrs D to b j := by
  induction i with
  | zero => rfl
  | succ i ih =>
    show (if (wrs D to b (j + i)).1 ≠ 0 then _ else _) = _
    rw [if_pos (by rw [ih]; exact h)]; exact ih
theorem wrs_fine {D : Dsk} {k : Int} (h : D.fine k) (to : Nat) (b : List UInt8) (j : Nat) : (wrs D to b j).2.fine (k + j) := by
  induction j with
  | zero => exact h.mono (by simp)
  | succ j ih =>
    show (if (wrs D to b j).1 ≠ 0 then _ else _ : Int × Dsk).2.fine _
    split
    · exact ih.mono (by push_cast; omega)
    · have := ih.write ((to + j : Nat) : Int) (chunk b j)
      refine this.mono (by push_cast; omega)
theorem wrs_len (D : Dsk) (to : Nat) (b : List UInt8) (j : Nat) : (wrs D to b j).2.secs.length = D.secs.length := by
  induction j with
  | zero => rfl
  | succ j ih =>
    show (if (wrs D to b j).1 ≠ 0 then _ else _ : Int × Dsk).2.secs.length = _
    split
    · exact ih
    · rw [Dsk.write_len]; exact ih
/-- How many sectors a record's bytes need. -/
def secsOf (b : List UInt8) : Nat := (b.length + 63) / 64
/-- What Put answers, and what it leaves. -/
def Dsk.put (D : Dsk) (p : Int) (num : Nat) (b : List UInt8) : Int × Dsk :=
  if p < 0 ∨ (D.secs.length : Int) - 12 < p then (1, D) else
  if 320 < b.length then (3, D) else
  if num ≤ (newestW D p.toNat).1.1 then (10, D) else
  if (wrs D (newestW D p.toNat).2 b (secsOf b)).1 ≠ 0 then (8, (wrs D (newestW D p.toNat).2 b (secsOf b)).2) else
  if ((wrs D (newestW D p.toNat).2 b (secsOf b)).2.write ((newestW D p.toNat).2 + 5 : Nat) (mkB num b)).1 ≠ 0 then (8, ((wrs D (newestW D p.toNat).2 b (secsOf b)).2.write ((newestW D p.toNat).2 + 5 : Nat) (mkB num b)).2) else
  (0, ((wrs D (newestW D p.toNat).2 b (secsOf b)).2.write ((newestW D p.toNat).2 + 5 : Nat) (mkB num b)).2)

theorem room_any (w : World) : Calls Tryz.prog 7 #[] w fun e w' => e = .returned (.int .i64 12) ∧ w = w' := by
  go_enter Tryz.func7, Tryz.ntmps7
  go_wp2
  go_ret
  exact ⟨rfl, rfl⟩
theorem no_disk (bd bl : Nat) (D : Dsk) (w : World) (h : IsDisk w bd bl D) : Calls Tryz.prog 27 #[.pointer (some ⟨bd, 0, none⟩)] w fun e w' => e = .returned (.bool false) ∧ w = w' := by
  have hp : ((D.secs.length : Int) == 0) = false := by rw [beq_eq_false_iff_ne]; have := h.pos; omega
  go_enter Tryz.func27, Tryz.ntmps27
  go_wp2_with (go_at_call 65; refine (len_disk bd bl D _ h).mono ?_; rintro e w' ⟨rfl, rfl⟩)
  go_ret
  exact ⟨rfl, rfl⟩
theorem no_nil (w : World) : Calls Tryz.prog 27 #[.pointer none] w fun e w' => e = .returned (.bool true) ∧ w = w' := by
  go_enter Tryz.func27, Tryz.ntmps27
  go_wp2_with (go_at_call 65; refine (len_nil _).mono ?_; rintro e w' ⟨rfl, rfl⟩)
  go_ret
  exact ⟨rfl, rfl⟩
theorem there_slot (bd bl : Nat) (D : Dsk) (p : Int) (w : World) (h : IsDisk w bd bl D) : Calls Tryz.prog 28 #[.pointer (some ⟨bd, 0, none⟩), .int .i64 p] w fun e w' => e = .returned (.bool (decide (¬ (p < 0 ∨ (D.secs.length : Int) - 12 < p)))) ∧ w = w' := by
  have hm := h.most
  have hp := h.pos
  by_cases h0 : p < 0
  · have d0 : decide (0 ≤ p) = false := decide_eq_false (by omega)
    have d1 : decide (¬ (p < 0 ∨ (D.secs.length : Int) - 12 < p)) = false := decide_eq_false (by omega)
    rw [d1]
    clear d1 h0
    go_enter Tryz.func28, Tryz.ntmps28
    go_wp2
    go_ret
    exact ⟨rfl, rfl⟩
  · have d0 : decide (0 ≤ p) = true := decide_eq_true (by omega)
    by_cases h1 : (D.secs.length : Int) - 12 < p
    · have d1 : decide (p ≤ (D.secs.length : Int) - 12) = false := decide_eq_false (by omega)
      have d2 : decide (¬ (p < 0 ∨ (D.secs.length : Int) - 12 < p)) = false := decide_eq_false (by omega)
      rw [d2]
      clear d2 h0 h1
      go_enter Tryz.func28, Tryz.ntmps28
      go_wp2_with (first
        | (go_at_call 65; refine (len_disk bd bl D _ h).mono ?_; rintro e w' ⟨rfl, rfl⟩)
        | (go_at_call 7; refine (room_any _).mono ?_; rintro e w' ⟨rfl, rfl⟩)
        | fail)
      go_ret
      exact ⟨rfl, rfl⟩
    · have d1 : decide (p ≤ (D.secs.length : Int) - 12) = true := decide_eq_true (by omega)
      have d2 : decide (¬ (p < 0 ∨ (D.secs.length : Int) - 12 < p)) = true := decide_eq_true (by omega)
      rw [d2]
      clear d2 h0 h1
      go_enter Tryz.func28, Tryz.ntmps28
      go_wp2_with (first
        | (go_at_call 65; refine (len_disk bd bl D _ h).mono ?_; rintro e w' ⟨rfl, rfl⟩)
        | (go_at_call 7; refine (room_any _).mono ?_; rintro e w' ⟨rfl, rfl⟩)
        | fail)
      go_ret
      exact ⟨rfl, rfl⟩

end Go.Proofs.YthenakdfdpdknaaGreatDoor

/- The package slots: Put; conditions: those typed. -/
namespace Go.Proofs.YthenakdfdpdknaaGreatDoor
open Go.RowKit
set_option linter.unusedVariables false

theorem put_nil (p : Int) (num : Nat) (a : Option Addr) (n c : Nat) (w : World) : Calls Tryz.prog 16 #[.pointer none, .int .i64 p, .int .u32 num, .slice a n c] w fun e w' => e = .returned (.int .i64 2) ∧ w = w' := by
  go_enter Tryz.func16, Tryz.ntmps16
  go_wp2_with (go_at_call 27; refine (no_nil _).mono ?_; rintro e w' ⟨rfl, rfl⟩)
  go_ret
  exact ⟨rfl, rfl⟩

theorem newestW_to (D : Dsk) (p : Nat) : (newestW D p).2 = p ∨ (newestW D p).2 = p + 6 := by
  unfold newestW
  split
  · exact .inl rfl
  · split
    · exact .inr rfl
    · exact .inl rfl
theorem newestW_lt {w : World} {bd bl : Nat} {D : Dsk} (h : IsDisk w bd bl D) (p : Nat) (hp : p + 12 ≤ D.secs.length) : (newestW D p).1.1 < 4294967296 := by
  have h1 := place_lt D p (secAt_length h _ (by omega))
  have h2 := place_lt D (p + 6) (secAt_length h _ (by omega))
  unfold newestW
  split
  · exact h2
  · split
    · exact h1
    · show 0 < 4294967296; decide

set_option maxRecDepth 100000 in
set_option maxHeartbeats 4000000 in
theorem put_any (bd bl : Nat) (D : Dsk) (p : Int) (num : Nat) (a : Option Addr) (n c : Nat) (b : List UInt8) (k : Int) (w : World) (h : IsDisk w bd bl D) (hb : IsB w a n c b) (hab : ∀ x off, a = some ⟨x, off, none⟩ → b ≠ [] → ¬ (x = bd ∨ x = bl)) (hk : D.fine k) (hk2 : k ≤ 100000000) (hn : num < 4294967296) :
    Calls Tryz.prog 16 #[.pointer (some ⟨bd, 0, none⟩), .int .i64 p, .int .u32 num, .slice a n c] w fun e w' => e = .returned (.int .i64 (D.put p num b).1) ∧ Touch (fun k => k = bd ∨ k = bl) w w' ∧ IsDisk w' bd bl (D.put p num b).2 := by
  obtain rfl := hb.1
  have hm := h.most
  have hp := h.pos
  by_cases hr : p < 0 ∨ (D.secs.length : Int) - 12 < p
  · have hpl : D.put p num b = (1, D) := if_pos hr
    rw [hpl]
    have d2 : decide (¬ (p < 0 ∨ (D.secs.length : Int) - 12 < p)) = false := decide_eq_false (fun h => h hr)
    clear hpl hab hb hk hk2 hr
    go_enter Tryz.func16, Tryz.ntmps16
    go_wp2_with (first
      | (go_at_call 27; refine (no_disk bd bl D _ h).mono ?_; rintro e w' ⟨rfl, rfl⟩)
      | (go_at_call 28; refine (there_slot bd bl D p _ h).mono ?_; rintro e w' ⟨rfl, rfl⟩; rw [d2])
      | fail)
    go_ret
    exact ⟨rfl, Touch.refl _ _, h⟩
  have d2 : decide (¬ (p < 0 ∨ (D.secs.length : Int) - 12 < p)) = true := decide_eq_true hr
  by_cases hl : 320 < b.length
  · have hpl : D.put p num b = (3, D) := by unfold Dsk.put; rw [if_neg hr, if_pos hl]
    rw [hpl]
    have d3 : decide ((320 : Int) < (b.length : Int)) = true := decide_eq_true (by omega)
    clear hpl hab hb hk hk2 hr hl
    go_enter Tryz.func16, Tryz.ntmps16
    go_wp2_with (first
      | (go_at_call 27; refine (no_disk bd bl D _ h).mono ?_; rintro e w' ⟨rfl, rfl⟩)
      | (go_at_call 28; refine (there_slot bd bl D p _ h).mono ?_; rintro e w' ⟨rfl, rfl⟩; rw [d2])
      | fail)
    go_ret
    exact ⟨rfl, Touch.refl _ _, h⟩
  have d3 : decide ((320 : Int) < (b.length : Int)) = false := decide_eq_false (by omega)
  obtain ⟨q, rfl⟩ : ∃ q : Nat, p = (q : Int) := ⟨p.toNat, by omega⟩
  have hq : q + 12 ≤ D.secs.length := by omega
  obtain ⟨R, hR⟩ : ∃ R, R = D.put (q : Int) num b := ⟨_, rfl⟩
  rw [← hR]
  have HPUT : Hid (R = if num ≤ (newestW D q).1.1 then (10, D) else
      if (wrs D (newestW D q).2 b (secsOf b)).1 ≠ 0 then (8, (wrs D (newestW D q).2 b (secsOf b)).2) else
      if ((wrs D (newestW D q).2 b (secsOf b)).2.write ((newestW D q).2 + 5 : Nat) (mkB num b)).1 ≠ 0 then (8, ((wrs D (newestW D q).2 b (secsOf b)).2.write ((newestW D q).2 + 5 : Nat) (mkB num b)).2) else
      (0, ((wrs D (newestW D q).2 b (secsOf b)).2.write ((newestW D q).2 + 5 : Nat) (mkB num b)).2)) := Lib.hid (by rw [hR]; unfold Dsk.put; rw [if_neg hr, if_neg hl]; rfl)
  have hto := newestW_to D q
  have hlt := newestW_lt h q hq
  clear hr hp hR
  have HNEW : Hid (∀ w, IsDisk w bd bl D → Calls Tryz.prog 29 #[.pointer (some ⟨bd, 0, none⟩), .int .i64 (q : Int)] w fun e w' => ∃ a c, e = .returned (.tuple #[.agg #[.int .u32 (newestW D q).1.1, .slice a (newestW D q).1.2.length c], .int .i64 (newestW D q).2]) ∧ Below w.heap.size w w' ∧ IsB w' a (newestW D q).1.2.length c (newestW D q).1.2) := Lib.hid (fun w h => newest_any bd bl D q (q : Int) w h rfl hq)
  generalize newestW D q = x at HPUT hto hlt HNEW
  obtain ⟨⟨xn, xb⟩, to⟩ := x
  dsimp only at HPUT hto hlt HNEW
  have hlt' : xn < 4294967296 := hlt
  have hto' : to ≤ q + 6 := by rcases hto with h | h <;> omega
  have HTO := Lib.hid hto'
  have HQ := Lib.hid hq
  clear hto hlt
  go_enter Tryz.func16, Tryz.ntmps16
  go_wp2_with (first
    | (go_at_call 27; refine (no_disk bd bl D _ h).mono ?_; rintro e w' ⟨rfl, rfl⟩)
    | (go_at_call 28; refine (there_slot bd bl D _ _ h).mono ?_; rintro e w' ⟨rfl, rfl⟩; rw [d2])
    | fail)
  refine (HNEW.out w h).mono ?_; rintro e w1 ⟨xa, xc, rfl, hb1, hi1⟩
  dsimp only at hi1 ⊢
  have hbe : Below w.heap.size w (w1.alloc (.cells #[.int .u32 xn, .slice xa xb.length xc] 72)) := hb1.alloc hb1.size _
  have hv := heap_new w1 (.cells #[.int .u32 xn, .slice xa xb.length xc] 72 (0, 0))
  have hw1s := hb1.size
  by_cases hold : num ≤ xn
  · have d4 : decide (num ≤ xn) = true := decide_eq_true hold
    have HR : Hid (R = (10, D)) := Lib.hid (by rw [HPUT.out, if_pos hold])
    have hd2 := h.touch (Touch.of_below (S := fun _ => False) hbe) id id
    have ht2 : Touch (fun k => k = bd ∨ k = bl) w (w1.alloc (.cells #[.int .u32 xn, .slice xa xb.length xc] 72)) := Touch.of_below hbe
    clear HPUT hi1 hb1 hold hab hb hk hbe
    go_wp2_with fail
    go_ret
    rw [HR.out]
    exact ⟨rfl, ht2, hd2⟩
  have d4 : decide (num ≤ xn) = false := decide_eq_false hold
  have HR : Hid (R = if (wrs D to b (secsOf b)).1 ≠ 0 then (8, (wrs D to b (secsOf b)).2) else
      if ((wrs D to b (secsOf b)).2.write (to + 5 : Nat) (mkB num b)).1 ≠ 0 then (8, ((wrs D to b (secsOf b)).2.write (to + 5 : Nat) (mkB num b)).2) else
      (0, ((wrs D to b (secsOf b)).2.write (to + 5 : Nat) (mkB num b)).2)) := Lib.hid (by rw [HPUT.out, if_neg hold])
  clear HPUT hi1 hb1 hold
  go_wp2_with fail
  have hd2 := h.touch (Touch.of_below (S := fun _ => False) hbe) id id
  have hb2 := hb.below hbe
  have ht2 : Touch (fun k => k = bd ∨ k = bl) w (w1.alloc (.cells #[.int .u32 xn, .slice xa xb.length xc] 72)) := Touch.of_below hbe
  generalize w1.alloc (.cells #[.int .u32 xn, .slice xa xb.length xc] 72) = w2 at hd2 hb2 ht2 ⊢
  clear hv hbe h hb HNEW
  obtain ⟨N, hN⟩ : ∃ N, N = b.length + 64 := ⟨_, rfl⟩
  have HN := Lib.hid hN
  clear hN
  have HAB := Lib.hid hab
  clear hab
  go_loopw [11] (fun i wr => ∃ j qq : Nat, Hid (qq = 64 * j) ∧ j ≤ secsOf b ∧ i = .int .i64 qq ∧ Hid ((wrs D to b j).1 = 0) ∧ Hid (IsDisk wr bd bl (wrs D to b j).2) ∧ Hid (Touch (fun k => k = bd ∨ k = bl) w wr) ∧ Hid (IsB wr a b.length c b)) (fun i _ => N - (intOf i).toNat)
  case atStart => exact ⟨0, 0, Lib.hid rfl, Nat.zero_le _, rfl, Lib.hid rfl, Lib.hid hd2, Lib.hid ht2, Lib.hid hb2⟩
  case round =>
    obtain ⟨j, qq, hqq, hj, rfl, he, hd, ht, hbb⟩ := hrel
    have hsec : secsOf b * 64 ≤ b.length + 63 := by unfold secsOf; omega
    have hqb : qq ≤ 384 := by have := hqq.out; omega
    by_cases hlt : qq < b.length
    · obtain ⟨r, hr1, hr64, hra, hrb, hrc⟩ : ∃ r, qq + r ≤ b.length ∧ r ≤ 64 ∧ ((b.length : Int) ≤ (qq : Int) + 64 → b.length - qq = r) ∧ ((qq : Int) + 64 < (b.length : Int) → ((qq : Int) + 64).toNat - qq = r) ∧ chunk b j = (b.drop qq).take r := by
        by_cases h1 : b.length ≤ qq + 64
        · refine ⟨b.length - qq, by omega, by omega, fun _ => rfl, fun h => by omega, ?_⟩
          unfold chunk
          rw [← hqq.out, List.take_of_length_le (by simp; omega), List.take_of_length_le (by simp)]
        · refine ⟨64, by omega, by omega, fun h => by omega, fun h => by omega, ?_⟩
          unfold chunk
          rw [← hqq.out]
      obtain ⟨ab, ao, rfl⟩ := hbb.out.nonnil (by omega)
      have hcl : b.length ≤ c := hbb.out.2.1
      have hsub := hbb.out.sub qq r (c - qq) hr1 (by omega) (by omega)
      have hjs : j < secsOf b := by unfold secsOf; have := hqq.out; omega
      have HRC := Lib.hid hrc
      clear hrc
      have hqd : (to : Int) + (qq : Int) / 64 = ((to + j : Nat) : Int) := by have := hqq.out; omega
      have HQD := Lib.hid hqd
      have HRA := Lib.hid hra
      have HRB := Lib.hid hrb
      have hfj := wrs_fine hk to b j
      have hsec5 : secsOf b ≤ 6 := by unfold secsOf; omega
      have hok := hfj.ok (by omega)
      have hb1 : Hid (wrs D to b (j + 1) = (wrs D to b j).2.write ((to + j : Nat) : Int) (chunk b j)) := Lib.hid (if_neg (fun h => h he.out))
      have HOK := Lib.hid hok
      clear hqd hra hrb hfj hok
      go_wp2_with fail
      all_goals
        rw [HQD.out]
        first
          | rw [HRA.out (by omega)]
          | rw [HRB.out (by omega)]
        refine (write_any bd bl (wrs D to b j).2 ((to + j : Nat) : Int) _ r (c - qq) (chunk b j) wr hd.out (by rw [HRC.out]; exact hsub) HOK.out).mono ?_; rintro e w3 ⟨rfl, ht3, hd3⟩
        rw [← hb1.out] at hd3 ⊢
        have ht3' := ht.out.trans ht3
        have hb3 := hbb.out.touch ht3 (fun x off h hl => HAB.out x off h hl)
        by_cases he1 : (wrs D to b (j + 1)).1 = 0
        · have hd1 : ((wrs D to b (j + 1)).1 != 0) = false := by rw [he1]; rfl
          have HE1 := Lib.hid he1
          clear he1
          go_wp2_with fail
          go_roundw
          case rel => exact ⟨j + 1, qq + 64, Lib.hid (by have := hqq.out; omega), by omega, by go_num, HE1, Lib.hid hd3, Lib.hid ht3', Lib.hid hb3⟩
          case measure => have := HN.out; simp [intOf]; omega
        · have hd1 : ((wrs D to b (j + 1)).1 != 0) = true := by rw [bne_iff_ne]; exact he1
          have HE1 := Lib.hid he1
          obtain ⟨i, hi⟩ : ∃ i, secsOf b = j + 1 + i := ⟨secsOf b - (j + 1), by omega⟩
          have hst := wrs_stuck D to b (j + 1) i he1
          rw [← hi] at hst
          have HRR : Hid (R = (8, (wrs D to b (j + 1)).2)) := Lib.hid (by rw [HR.out, if_pos (by rw [hst]; exact HE1.out), hst])
          clear he1 hst hi
          go_wp2_with fail
          go_ret
          rw [HRR.out]
          exact ⟨rfl, ht3', hd3⟩
    · have hjj : j = secsOf b := by unfold secsOf at hj ⊢; have := hqq.out; omega
      subst hjj
      have hfj := wrs_fine hk to b (secsOf b)
      have hsec5 : secsOf b ≤ 6 := by unfold secsOf; omega
      have HOK := Lib.hid (hfj.ok (by omega))
      have ht5 : (to : Int) + 5 = ((to + 5 : Nat) : Int) := by omega
      have HT5 := Lib.hid ht5
      have HE := he
      clear hfj ht5 hqq hj hsec
      generalize hjj : secsOf b = J at HE hd HOK hsec5
      rw [hjj] at HR he
      clear hjj he
      go_wp2_with (first
        | (go_at_call 30; refine (mark_any num hn a b.length c b wr hbb.out (by omega)).mono ?_; rintro e w3 ⟨ma, rfl, hb3, hi3⟩)
        | fail)
      have hd3 := hd.out.touch (Touch.of_below (S := fun _ => False) hb3) id id
      have ht3 := ht.out.trans (Touch.of_below hb3)
      rw [HT5.out]
      refine (write_any bd bl (wrs D to b J).2 ((to + 5 : Nat) : Int) ma 10 10 (mkB num b) w3 hd3 hi3 HOK.out).mono ?_; rintro e w4 ⟨rfl, ht4, hd4⟩
      have ht4' := ht3.trans ht4
      generalize ((wrs D to b J).2.write ((to + 5 : Nat) : Int) (mkB num b)) = W at hd4 HR ⊢
      have hneg : ¬ (wrs D to b J).1 ≠ 0 := fun h => h HE.out
      by_cases he1 : W.1 = 0
      · have hd1 : (W.1 != 0) = false := by rw [he1]; rfl
        have HRR : Hid (R = (0, W.2)) := Lib.hid (by rw [HR.out, if_neg hneg, if_neg (by rw [he1]; simp)])
        clear he1 hneg
        go_wp2_with fail
        go_ret
        rw [HRR.out]
        exact ⟨rfl, ht4', hd4⟩
      · have hd1 : (W.1 != 0) = true := by rw [bne_iff_ne]; exact he1
        have HRR : Hid (R = (8, W.2)) := Lib.hid (by rw [HR.out, if_neg hneg, if_pos he1])
        clear he1 hneg
        go_wp2_with fail
        go_ret
        rw [HRR.out]
        exact ⟨rfl, ht4', hd4⟩

end Go.Proofs.YthenakdfdpdknaaGreatDoor

/- The package slots: Get; conditions: those typed. -/
namespace Go.Proofs.YthenakdfdpdknaaGreatDoor
open Go.RowKit
set_option linter.unusedVariables false

/-- What Get answers. -/
def Dsk.get (D : Dsk) (p : Int) : Nat × List UInt8 × Int := if p < 0 ∨ (D.secs.length : Int) - 12 < p then (0, [], 1) else ((newestW D p.toNat).1.1, (newestW D p.toNat).1.2, 0)

theorem get_nil (p : Int) (w : World) : Calls Tryz.prog 20 #[.pointer none, .int .i64 p] w fun e w' => e = .returned (.tuple #[.int .u32 0, .slice none 0 0, .int .i64 2]) ∧ w = w' := by
  go_enter Tryz.func20, Tryz.ntmps20
  go_wp2_with (go_at_call 27; refine (no_nil _).mono ?_; rintro e w' ⟨rfl, rfl⟩)
  go_ret3
  exact ⟨rfl, rfl⟩

theorem place_short (D : Dsk) (p : Nat) (h : (run5 D p 5).length = 320) : (place D p).2.length ≤ 320 := by
  unfold place
  split
  · simp
  · split
    · simp; omega
    · simp
theorem newestW_short {w : World} {bd bl : Nat} {D : Dsk} (h : IsDisk w bd bl D) (p : Nat) (hp : p + 12 ≤ D.secs.length) : (newestW D p).1.2.length ≤ 320 := by
  have h1 := place_short D p (run5_length h p 5 (by omega))
  have h2 := place_short D (p + 6) (run5_length h (p + 6) 5 (by omega))
  unfold newestW
  split
  · exact h2
  · split
    · exact h1
    · simp

theorem owns_lower {w : World} {B B' e sz n : Nat} {v : Value} {xs : List Value} (h : w.ownsRow B e sz v n xs) (hB : B' ≤ B) : w.ownsRow B' e sz v n xs := by
  refine ⟨h.1, ?_⟩
  rcases h.2 with h0 | ⟨g, cap, cur, hv, hb, h3⟩
  · exact .inl h0
  · exact .inr ⟨g, cap, cur, hv, Nat.le_trans hB hb, h3⟩

set_option maxHeartbeats 4000000 in
theorem get_own (bd bl : Nat) (D : Dsk) (p : Int) (w : World) (h : IsDisk w bd bl D) :
    Calls Tryz.prog 20 #[.pointer (some ⟨bd, 0, none⟩), .int .i64 p] w fun e w' => ∃ a, e = .returned (.tuple #[.int .u32 (D.get p).1, .slice a (D.get p).2.1.length (D.get p).2.1.length, .int .i64 (D.get p).2.2]) ∧ Below w.heap.size w w' ∧ IsB w' a (D.get p).2.1.length (D.get p).2.1.length (D.get p).2.1 ∧ ∃ yc, w'.ownsRow w.heap.size 5 1 (.slice a (D.get p).2.1.length yc) (D.get p).2.1.length (bcells (D.get p).2.1) := by
  have hm := h.most
  have hp := h.pos
  by_cases hr : p < 0 ∨ (D.secs.length : Int) - 12 < p
  · have hpl : D.get p = (0, [], 1) := if_pos hr
    rw [hpl]
    have d2 : decide (¬ (p < 0 ∨ (D.secs.length : Int) - 12 < p)) = false := decide_eq_false (fun h => h hr)
    clear hpl hr
    go_enter Tryz.func20, Tryz.ntmps20
    go_wp2_with (first
      | (go_at_call 27; refine (no_disk bd bl D _ h).mono ?_; rintro e w' ⟨rfl, rfl⟩)
      | (go_at_call 28; refine (there_slot bd bl D p _ h).mono ?_; rintro e w' ⟨rfl, rfl⟩; rw [d2])
      | fail)
    go_ret3
    exact ⟨none, rfl, Below.refl _ _, IsB.nil _, 0, World.ownsRow_nil _ _ _ _⟩
  have d2 : decide (¬ (p < 0 ∨ (D.secs.length : Int) - 12 < p)) = true := decide_eq_true hr
  obtain ⟨q, rfl⟩ : ∃ q : Nat, p = (q : Int) := ⟨p.toNat, by omega⟩
  have hq : q + 12 ≤ D.secs.length := by omega
  have hpl : D.get (q : Int) = ((newestW D q).1.1, (newestW D q).1.2, 0) := if_neg hr
  rw [hpl]
  have hsh := newestW_short h q hq
  have HNEW : Hid (∀ w, IsDisk w bd bl D → Calls Tryz.prog 29 #[.pointer (some ⟨bd, 0, none⟩), .int .i64 (q : Int)] w fun e w' => ∃ a c, e = .returned (.tuple #[.agg #[.int .u32 (newestW D q).1.1, .slice a (newestW D q).1.2.length c], .int .i64 (newestW D q).2]) ∧ Below w.heap.size w w' ∧ IsB w' a (newestW D q).1.2.length c (newestW D q).1.2) := Lib.hid (fun w h => newest_any bd bl D q (q : Int) w h rfl hq)
  generalize newestW D q = x at HNEW hsh
  obtain ⟨⟨xn, xb⟩, to⟩ := x
  dsimp only at HNEW hsh ⊢
  clear hpl hr hp
  go_enter Tryz.func20, Tryz.ntmps20
  go_wp2_with (first
    | (go_at_call 27; refine (no_disk bd bl D _ h).mono ?_; rintro e w' ⟨rfl, rfl⟩)
    | (go_at_call 28; refine (there_slot bd bl D _ _ h).mono ?_; rintro e w' ⟨rfl, rfl⟩; rw [d2])
    | fail)
  refine (HNEW.out w h).mono ?_; rintro e w1 ⟨xa, xc, rfl, hb1, hi1⟩
  dsimp only at hi1 ⊢
  have hbe : Below w.heap.size w (w1.alloc (.cells #[.int .u32 xn, .slice xa xb.length xc] 72)) := hb1.alloc hb1.size _
  have hv := heap_new w1 (.cells #[.int .u32 xn, .slice xa xb.length xc] 72 (0, 0))
  have hi2 := hi1.below ((Below.refl w1.heap.size w1).alloc (Nat.le_refl _) (.cells #[.int .u32 xn, .slice xa xb.length xc] 72 (0, 0)))
  have hw1s := hb1.size
  clear HNEW hi1 hb1
  go_wp2_with fail
  generalize w1.alloc (.cells #[.int .u32 xn, .slice xa xb.length xc] 72) = w2 at hbe hv hi2 ⊢
  have f0 : w2.cell? ⟨w1.heap.size, 0, none⟩ = some (.int .u32 xn) := by rw [cell_of_block hv]; rfl
  have f1 : w2.cell? ⟨w1.heap.size, 1, none⟩ = some (.slice xa xb.length xc) := by rw [cell_of_block hv]; rfl
  have hd0 := (Below.refl w2.heap.size w2).drew
  go_region_held3 (fun w' => w'.cell? ⟨w1.heap.size, 0, none⟩ = some (.int .u32 xn) ∧ w'.cell? ⟨w1.heap.size, 1, none⟩ = some (.slice xa xb.length xc)) (first
      | with_reducible exact ⟨cell_later hB3 f0, cell_later hB3 f1⟩
      | with_reducible exact ⟨cell_later hd0 f0, cell_later hd0 f1⟩) (first
    | (go_at_call 37; ((with_reducible refine (sclone_any xa xb.length xc xb w2.drew (hi2.below hd0) (by omega)).mono ?_); rintro e w3 ⟨ya, yc, rfl, hb3, hi3, ho3⟩; have hB3 : Below w2.heap.size w2 w3 := hd0.trans (hb3.mono hd0.size)))
    | (go_at_call 36; ((refine (clip_any ya xb.length yc w3 hi3.2.1 hi3.2.2.1 hi3.noneCap).mono ?_); rintro e w4 ⟨rfl, rfl⟩))
    | fail)
  go_wp2_with fail
  go_ret3
  exact ⟨ya, rfl, hbe.trans (hB3.mono hbe.size), hi3.clip, yc, owns_lower ho3 hbe.size⟩

theorem get_any (bd bl : Nat) (D : Dsk) (p : Int) (w : World) (h : IsDisk w bd bl D) :
    Calls Tryz.prog 20 #[.pointer (some ⟨bd, 0, none⟩), .int .i64 p] w fun e w' => ∃ a, e = .returned (.tuple #[.int .u32 (D.get p).1, .slice a (D.get p).2.1.length (D.get p).2.1.length, .int .i64 (D.get p).2.2]) ∧ Below w.heap.size w w' ∧ IsB w' a (D.get p).2.1.length (D.get p).2.1.length (D.get p).2.1 :=
  (get_own bd bl D p w h).mono fun e w' ⟨a, h1, h2, h3, _⟩ => ⟨a, h1, h2, h3⟩

end Go.Proofs.YthenakdfdpdknaaGreatDoor

/- Plain laws on slots: what Put leaves; no program in sight. -/
namespace Go.Proofs.YthenakdfdpdknaaGreatDoor
open Go.RowKit
set_option linter.unusedVariables false

theorem numOf_append (a b : List UInt8) : numOf (a ++ b) = numOf a + 256 ^ a.length * numOf b := by
  induction a with
  | nil => simp [numOf]
  | cons x a ih =>
    show numOf (a ++ b) * 256 + x.toNat = (numOf a * 256 + x.toNat) + 256 ^ (a.length + 1) * numOf b
    rw [ih, Nat.pow_succ, Nat.add_mul]
    generalize 256 ^ a.length = P
    generalize numOf b = B
    generalize numOf a = A
    have : P * B * 256 = P * 256 * B := by rw [Nat.mul_assoc, Nat.mul_comm B, ← Nat.mul_assoc]
    rw [this]
    exact Nat.add_right_comm _ _ _
theorem numOf_leB (v k : Nat) : numOf (leB v k) = v % 256 ^ k := by
  induction k with
  | zero => simp [numOf, leB, Nat.mod_one]
  | succ k ih =>
    show numOf (leB v k ++ [UInt8.ofNat (v / 256 ^ k)]) = _
    rw [numOf_append, ih, leB_length]
    have e1 : numOf [UInt8.ofNat (v / 256 ^ k)] = v / 256 ^ k % 256 := by simp [numOf]
    rw [e1, Nat.pow_succ, Nat.mod_mul]
theorem mkB_take4 (m : Nat) (b : List UInt8) (x : List UInt8) : (mkB m b ++ x).take 4 = leB m 4 := by
  unfold mkB mk6
  simp only [List.append_assoc]
  rw [List.take_append_of_le_length (by rw [leB_length]; omega), List.take_of_length_le (by rw [leB_length]; omega)]
theorem mkB_drop4 (m : Nat) (b : List UInt8) (x : List UInt8) : ((mkB m b ++ x).drop 4).take 2 = leB b.length 2 := by
  unfold mkB mk6
  simp only [List.append_assoc]
  have h4 : (leB m 4).length = 4 := leB_length _ _
  rw [List.drop_append_of_le_length (by omega), List.drop_eq_nil_of_le (by omega), List.nil_append, List.take_append_of_le_length (by rw [leB_length]; omega), List.take_of_length_le (by rw [leB_length]; omega)]

/-- Every sector has 64 bytes. -/
def Dsk.good (D : Dsk) : Prop := Secs D.secs
theorem secAt_64 {D : Dsk} (h : D.good) (i : Nat) (hi : i < D.secs.length) : (secAt D i).length = 64 := by
  have e1 : secAt D i = D.secs[i] := by unfold secAt; simp [hi]
  rw [e1]; exact h _ (List.getElem_mem hi)
theorem run5_len {D : Dsk} (h : D.good) (p j : Nat) (hj : p + j ≤ D.secs.length) : (run5 D p j).length = 64 * j := by
  induction j with
  | zero => rfl
  | succ j ih =>
    show (run5 D p j ++ secAt D (p + j)).length = _
    rw [List.length_append, ih (by omega), secAt_64 h _ (by omega)]
    omega
theorem run5_get {D : Dsk} (h : D.good) (p j : Nat) (hj : p + j ≤ D.secs.length) (x : Nat) (hx : x < 64 * j) : (run5 D p j)[x]? = (secAt D (p + x / 64))[x % 64]? := by
  induction j with
  | zero => omega
  | succ j ih =>
    show (run5 D p j ++ secAt D (p + j))[x]? = _
    have hl := run5_len h p j (by omega)
    by_cases h1 : x < 64 * j
    · rw [List.getElem?_append_left (by omega), ih (by omega) h1]
    · rw [List.getElem?_append_right (by omega), hl, show x / 64 = j by omega, show x - 64 * j = x % 64 by omega]
theorem padS_get (b : List UInt8) (x : Nat) (hx : x < b.length) : (padS b)[x]? = b[x]? := by unfold padS; rw [List.getElem?_append_left hx]
theorem chunk_length (b : List UInt8) (j : Nat) : (chunk b j).length ≤ 64 := by unfold chunk; simp; omega
theorem run5_padded {D : Dsk} (h : D.good) (to : Nat) (b : List UInt8) (hb : b.length ≤ 320) (ht : to + 5 ≤ D.secs.length) (hs : ∀ i, i < secsOf b → secAt D (to + i) = padS (chunk b i)) : (run5 D to 5).take b.length = b := by
  have hl := run5_len h to 5 ht
  apply List.ext_getElem?
  intro x
  by_cases hx : x < b.length
  · rw [List.getElem?_take, if_pos hx, run5_get h to 5 ht x (by omega), hs (x / 64) (by unfold secsOf; omega)]
    have hc : x % 64 < (chunk b (x / 64)).length := by unfold chunk; simp; omega
    rw [padS_get _ _ hc]
    unfold chunk
    rw [List.getElem?_take, if_pos (by omega), List.getElem?_drop, show 64 * (x / 64) + x % 64 = x by omega]
  · rw [List.getElem?_eq_none (by simp; omega), List.getElem?_eq_none (by omega)]
/-- What is written, stands. -/
theorem place_written {D : Dsk} (h : D.good) (to m : Nat) (b : List UInt8) (hb : b.length ≤ 320) (hm : m < 4294967296) (hm0 : 0 < m) (ht : to + 5 < D.secs.length) (hs : ∀ i, i < secsOf b → secAt D (to + i) = padS (chunk b i)) (hk : secAt D (to + 5) = mkB m b ++ z54) : place D to = (m, b) := by
  have h1 : numAt D to = m := by unfold numAt; rw [hk, mkB_take4, numOf_leB]; omega
  have h2 : manyAt D to = b.length := by unfold manyAt; rw [hk, mkB_drop4, numOf_leB]; omega
  unfold place
  rw [h1, h2, if_neg (by omega), run5_padded h to b hb (by omega) hs, if_pos hk.symm]
theorem run5_same {D D' : Dsk} (p j : Nat) (h : ∀ i, i < j → secAt D' (p + i) = secAt D (p + i)) : run5 D' p j = run5 D p j := by
  induction j with
  | zero => rfl
  | succ j ih =>
    show run5 D' p j ++ secAt D' (p + j) = run5 D p j ++ secAt D (p + j)
    rw [ih (fun i hi => h i (by omega)), h j (by omega)]
theorem place_same {D D' : Dsk} (p : Nat) (h : ∀ i, i < 6 → secAt D' (p + i) = secAt D (p + i)) : place D' p = place D p := by
  have e5 := run5_same p 5 (fun i hi => h i (by omega))
  have em := h 5 (by omega)
  unfold place numAt manyAt
  rw [e5, em]
theorem newestW_same {D D' : Dsk} (p : Nat) (h : ∀ i, i < 12 → secAt D' (p + i) = secAt D (p + i)) : newestW D' p = newestW D p := by
  have e0 := place_same p (fun i hi => h i (by omega))
  have e1 := place_same (D := D) (D' := D') (p + 6) (fun i hi => by have := h (6 + i) (by omega); rw [show p + 6 + i = p + (6 + i) by omega]; exact this)
  unfold newestW
  rw [e0, e1]

/-- As many writes more are let be. -/
def Dsk.room (D : Dsk) (j : Nat) : Prop := D.blown = false ∧ (D.left < 0 ∨ (j : Int) ≤ D.left)
def lessLeft (l : Int) (j : Nat) : Int := if l < 0 then l else l - j
theorem lessLeft_add {l : Int} {j : Nat} (h : l < 0 ∨ ((j + 1 : Nat) : Int) ≤ l) : lessLeft (lessLeft l j) 1 = lessLeft l (j + 1) := by
  unfold lessLeft
  by_cases h0 : l < 0
  · rw [if_pos h0, if_pos h0, if_pos h0]
  · rw [if_neg h0, if_neg h0, if_neg (by omega)]; push_cast; omega
theorem secAt_set (D : Dsk) (n : Nat) (s : List UInt8) (l : Int) (bl : Bool) (wr : Int) (x : Nat) : secAt { secs := D.secs.set n s, left := l, blown := bl, writes := wr } x = if x = n ∧ n < D.secs.length then s else secAt D x := by
  unfold secAt
  by_cases h : x = n
  · subst h
    by_cases h2 : x < D.secs.length
    · rw [if_pos ⟨rfl, h2⟩]; simp [h2]
    · rw [if_neg (fun e => h2 e.2)]; simp [h2]
  · rw [if_neg (fun e => h e.1)]
    simp only [List.getD_eq_getElem?_getD]
    rw [List.getElem?_set_ne (fun e => h e.symm)]
theorem write_room {D : Dsk} {j : Nat} (h : D.room (j + 1)) (n : Nat) (b : List UInt8) (hn : n < D.secs.length) (hb : b.length ≤ 64) :
    (D.write (n : Int) b).1 = 0 ∧ (D.write (n : Int) b).2.blown = false ∧ (D.write (n : Int) b).2.left = lessLeft D.left 1 ∧ (D.write (n : Int) b).2.writes = D.writes + 1 ∧ secAt (D.write (n : Int) b).2 n = padS b ∧ ∀ x, x ≠ n → secAt (D.write (n : Int) b).2 x = secAt D x := by
  obtain ⟨h1, h2⟩ := h
  have e : D.write (n : Int) b = (0, { D with secs := D.secs.set n (padS b), left := if 0 < D.left then D.left - 1 else D.left, writes := D.writes + 1 }) := by
    unfold Dsk.write
    rw [if_neg (by omega), if_neg (by rw [h1]; simp; push_cast at h2; omega)]
    rfl
  rw [e]
  refine ⟨rfl, h1, ?_, rfl, ?_, fun x hx => ?_⟩
  · dsimp only
    unfold lessLeft
    push_cast at h2
    split <;> split <;> omega
  · dsimp only
    rw [secAt_set, if_pos ⟨rfl, hn⟩]
  · dsimp only
    rw [secAt_set, if_neg (fun e => hx e.1)]
theorem write_good {D : Dsk} (h : D.good) (n : Int) (b : List UInt8) (hb : b.length ≤ 64) : (D.write n b).2.good := by
  unfold Dsk.write
  split
  · exact h
  · split
    · exact h
    · intro s hs
      rcases List.mem_or_eq_of_mem_set hs with h' | rfl
      · exact h s h'
      · exact padS_length b hb
theorem write_none {D : Dsk} (h0 : D.left = 0) (n : Nat) (b : List UInt8) (hn : n < D.secs.length) (hb : b.length ≤ 64) : D.write (n : Int) b = (8, { D with blown := true }) := by
  unfold Dsk.write
  rw [if_neg (by omega), if_pos (.inr h0)]
theorem write_far (D : Dsk) (n : Nat) (b : List UInt8) (x : Nat) (hx : x ≠ n) : secAt (D.write (n : Int) b).2 x = secAt D x := by
  unfold Dsk.write
  split
  · rfl
  · split
    · rfl
    · dsimp only
      rw [show ((n : Int)).toNat = n from rfl, secAt_set, if_neg (fun e => hx e.1)]
theorem wrs_good {D : Dsk} (h : D.good) (to : Nat) (b : List UInt8) (j : Nat) : (wrs D to b j).2.good := by
  induction j with
  | zero => exact h
  | succ j ih =>
    show (if (wrs D to b j).1 ≠ 0 then _ else _ : Int × Dsk).2.good
    split
    · exact ih
    · exact write_good ih _ _ (chunk_length _ _)
theorem wrs_far (D : Dsk) (to : Nat) (b : List UInt8) (j : Nat) (x : Nat) (hx : x < to ∨ to + j ≤ x) : secAt (wrs D to b j).2 x = secAt D x := by
  induction j with
  | zero => rfl
  | succ j ih =>
    show secAt (if (wrs D to b j).1 ≠ 0 then _ else _ : Int × Dsk).2 x = _
    split
    · exact ih (by omega)
    · rw [write_far _ _ _ _ (by omega)]; exact ih (by omega)
theorem wrs_room {D : Dsk} (to : Nat) (b : List UInt8) (j : Nat) (hr : D.room j) (ht : to + j ≤ D.secs.length) :
    (wrs D to b j).1 = 0 ∧ (wrs D to b j).2.blown = false ∧ (wrs D to b j).2.left = lessLeft D.left j ∧ (wrs D to b j).2.writes = D.writes + j ∧ ∀ i, i < j → secAt (wrs D to b j).2 (to + i) = padS (chunk b i) := by
  induction j with
  | zero => exact ⟨rfl, hr.1, by unfold lessLeft; split <;> simp [wrs], by simp [wrs], fun i hi => by omega⟩
  | succ j ih =>
    obtain ⟨a1, a2, a3, a4, a5⟩ := ih ⟨hr.1, by have := hr.2; push_cast at this; omega⟩ (by omega)
    have e : wrs D to b (j + 1) = (wrs D to b j).2.write ((to + j : Nat) : Int) (chunk b j) := if_neg (fun h => h a1)
    have hr' : (wrs D to b j).2.room 1 := ⟨a2, by rw [a3]; unfold lessLeft; have := hr.2; push_cast at this; split <;> omega⟩
    obtain ⟨b1, b2, b3, b4, b5, b6⟩ := write_room (j := 0) hr' (to + j) (chunk b j) (by rw [wrs_len]; omega) (chunk_length _ _)
    rw [e]
    refine ⟨b1, b2, by rw [b3, a3]; exact lessLeft_add hr.2, by rw [b4, a4]; push_cast; omega, fun i hi => ?_⟩
    by_cases hij : i = j
    · subst hij; exact b5
    · rw [b6 _ (by omega)]; exact a5 i (by omega)
/-- Where the writes run out. -/
theorem wrs_torn {D : Dsk} (to : Nat) (b : List UInt8) (k j : Nat) (hB : D.blown = false) (hk : D.left = (k : Int)) (hj : k < j) (ht : to + j ≤ D.secs.length) : (wrs D to b j).1 = 8 := by
  obtain ⟨a1, a2, a3, a4, a5⟩ := wrs_room (D := D) to b k ⟨hB, .inr (by omega)⟩ (by omega)
  have e : wrs D to b (k + 1) = (wrs D to b k).2.write ((to + k : Nat) : Int) (chunk b k) := if_neg (fun h => h a1)
  have h0 : (wrs D to b k).2.left = 0 := by rw [a3, hk]; unfold lessLeft; split <;> omega
  rw [write_none h0 _ _ (by rw [wrs_len]; omega) (chunk_length _ _)] at e
  have h8 : (wrs D to b (k + 1)).1 = 8 := by rw [e]
  obtain ⟨i, rfl⟩ : ∃ i, j = k + 1 + i := ⟨j - (k + 1), by omega⟩
  rw [wrs_stuck D to b (k + 1) i (by rw [h8]; decide)]
  exact h8

end Go.Proofs.YthenakdfdpdknaaGreatDoor

/- Plain laws on slots: Put, whole and torn; no program in sight. -/
namespace Go.Proofs.YthenakdfdpdknaaGreatDoor
open Go.RowKit
set_option linter.unusedVariables false

theorem place_num (D : Dsk) (p : Nat) : (place D p).1 = 0 ∨ (place D p).1 = numAt D p := by
  unfold place
  split
  · exact .inl rfl
  · split
    · exact .inr rfl
    · exact .inl rfl
/-- What stands raw in a slot's two marks. -/
def rawOk (D : Dsk) (p : Nat) : Prop := numAt D p ≤ (newestW D p).1.1 ∧ numAt D (p + 6) ≤ (newestW D p).1.1 ∧ (numAt D (newestW D p).2 = 0 ∨ numAt D (newestW D p).2 < (newestW D p).1.1)

/-- The disk behind a record that was put wholly. -/
structure PutFull (D D' : Dsk) (p m : Nat) (b : List UInt8) : Prop where
  good : D'.good
  blown : D'.blown = false
  left : D'.left = lessLeft D.left (secsOf b + 1)
  writes : D'.writes = D.writes + (secsOf b + 1 : Nat)
  len : D'.secs.length = D.secs.length
  new : (newestW D' p).1 = (m, b)
  far : ∀ x, x < p ∨ p + 12 ≤ x → secAt D' x = secAt D x
  raw : rawOk D p → rawOk D' p

theorem mkB_len (m : Nat) (b : List UInt8) : (mkB m b).length ≤ 64 := by rw [mkB_length]; decide
theorem padS_mkB (m : Nat) (b : List UInt8) : padS (mkB m b) = mkB m b ++ z54 := by unfold padS z54; rw [mkB_length]

theorem numAt_mk {D : Dsk} (to m : Nat) (b : List UInt8) (hm : m < 4294967296) (hk : secAt D (to + 5) = mkB m b ++ z54) : numAt D to = m := by unfold numAt; rw [hk, mkB_take4, numOf_leB]; omega

theorem put_is {D : Dsk} (p m : Nat) (b : List UInt8) (hp : p + 12 ≤ D.secs.length) (hb : b.length ≤ 320) (hgt : (newestW D p).1.1 < m) :
    D.put (p : Int) m b = if (wrs D (newestW D p).2 b (secsOf b)).1 ≠ 0 then (8, (wrs D (newestW D p).2 b (secsOf b)).2) else
      if ((wrs D (newestW D p).2 b (secsOf b)).2.write ((newestW D p).2 + 5 : Nat) (mkB m b)).1 ≠ 0 then (8, ((wrs D (newestW D p).2 b (secsOf b)).2.write ((newestW D p).2 + 5 : Nat) (mkB m b)).2) else
      (0, ((wrs D (newestW D p).2 b (secsOf b)).2.write ((newestW D p).2 + 5 : Nat) (mkB m b)).2) := by
  unfold Dsk.put
  rw [if_neg (by omega), if_neg (by omega), if_neg (by show ¬ m ≤ (newestW D p).1.1; omega)]
  rfl

theorem put_full {D : Dsk} (h : D.good) (p m : Nat) (b : List UInt8) (hp : p + 12 ≤ D.secs.length) (hb : b.length ≤ 320) (hm : m < 4294967296) (hgt : (newestW D p).1.1 < m) (hr : D.room (secsOf b + 1)) :
    (D.put (p : Int) m b).1 = 0 ∧ PutFull D (D.put (p : Int) m b).2 p m b := by
  have hput := put_is p m b hp hb hgt
  have hto := newestW_to D p
  have hnew : newestW D p = newestW D p := rfl
  have hsec : secsOf b ≤ 5 := by unfold secsOf; omega
  generalize hto2 : (newestW D p).2 = to at hput hto
  obtain ⟨a1, a2, a3, a4, a5⟩ := wrs_room (D := D) to b (secsOf b) ⟨hr.1, by have := hr.2; push_cast at this; omega⟩ (by omega)
  have afar := wrs_far D to b (secsOf b)
  have agood := wrs_good h to b (secsOf b)
  have alen := wrs_len D to b (secsOf b)
  generalize wrs D to b (secsOf b) = W at hput a1 a2 a3 a4 a5 afar agood alen
  have hr1 : W.2.room 1 := ⟨a2, by rw [a3]; unfold lessLeft; have := hr.2; push_cast at this; split <;> omega⟩
  obtain ⟨b1, b2, b3, b4, b5, b6⟩ := write_room (j := 0) hr1 (to + 5) (mkB m b) (by rw [alen]; omega) (mkB_len m b)
  have bgood := write_good agood ((to + 5 : Nat) : Int) (mkB m b) (mkB_len m b)
  have blen := W.2.write_len ((to + 5 : Nat) : Int) (mkB m b)
  generalize W.2.write ((to + 5 : Nat) : Int) (mkB m b) = V at hput b1 b2 b3 b4 b5 b6 bgood blen
  rw [if_neg (by rw [a1]; simp), if_neg (by rw [b1]; simp)] at hput
  rw [hput]
  refine ⟨rfl, ?_⟩
  have hsec2 : ∀ i, i < secsOf b → secAt V.2 (to + i) = padS (chunk b i) := fun i hi => by rw [b6 _ (by omega)]; exact a5 i hi
  have hmk : secAt V.2 (to + 5) = mkB m b ++ z54 := by rw [b5, padS_mkB]
  have hm0 : 0 < m := by omega
  have hpl : place V.2 to = (m, b) := place_written bgood to m b hb hm hm0 (by rw [blen, alen]; omega) hsec2 hmk
  have hoth : ∀ q, (q = p ∨ q = p + 6) → q ≠ to → ∀ i, i < 6 → secAt V.2 (q + i) = secAt D (q + i) := fun q hq hne i hi => by
    rw [b6 _ (by omega), afar _ (by omega)]
  have hnum : ∀ q, (q = p ∨ q = p + 6) → (place D q).1 ≤ (newestW D p).1.1 := fun q hq => by
    unfold newestW
    split
    · rcases hq with rfl | rfl <;> dsimp only <;> omega
    · split
      · rcases hq with rfl | rfl <;> dsimp only <;> omega
      · rcases hq with rfl | rfl <;> dsimp only <;> omega
  have hnew2 : newestW V.2 p = ((m, b), if to = p then p + 6 else p) := by
    rcases hto with rfl | rfl
    · have e6 := place_same (D := D) (D' := V.2) (to + 6) (hoth (to + 6) (.inr rfl) (by omega))
      have := hnum (to + 6) (.inr rfl)
      unfold newestW
      rw [hpl, e6, if_neg (by dsimp only; omega), if_pos hm0, if_pos rfl]
    · have e0 := place_same (D := D) (D' := V.2) p (hoth p (.inl rfl) (by omega))
      have := hnum p (.inl rfl)
      unfold newestW
      rw [hpl, e0, if_pos (by dsimp only; omega), if_neg (by omega)]
  refine ⟨bgood, b2, ?_, ?_, by rw [blen, alen], by rw [hnew2], fun x hx => ?_, fun ⟨r1, r2, r3⟩ => ?_⟩
  · rw [b3, a3]; exact lessLeft_add hr.2
  · rw [b4, a4]; push_cast; omega
  · rw [b6 _ (by omega), afar _ (by omega)]
  · have ht : numAt V.2 to = m := numAt_mk to m b hm hmk
    unfold rawOk
    rw [hnew2]
    dsimp only
    rcases hto with rfl | rfl
    · have e6 : numAt V.2 (to + 6) = numAt D (to + 6) := by unfold numAt; rw [hoth (to + 6) (.inr rfl) (by omega) 5 (by omega)]
      rw [if_pos rfl, ht, e6]
      exact ⟨Nat.le_refl _, by omega, .inr (by omega)⟩
    · have e0 : numAt V.2 p = numAt D p := by unfold numAt; rw [hoth p (.inl rfl) (by omega) 5 (by omega)]
      rw [if_neg (by omega), ht, e0]
      exact ⟨by omega, Nat.le_refl _, .inr (by omega)⟩

theorem put_torn {D : Dsk} (h : D.good) (p m k : Nat) (b : List UInt8) (hp : p + 12 ≤ D.secs.length) (hb : b.length ≤ 320) (hgt : (newestW D p).1.1 < m) (hB : D.blown = false) (hk : D.left = (k : Int)) (hk2 : k ≤ secsOf b) :
    (D.put (p : Int) m b).1 = 8 ∧ (D.put (p : Int) m b).2.good ∧ (D.put (p : Int) m b).2.secs.length = D.secs.length ∧ ∀ x, x < (newestW D p).2 ∨ (newestW D p).2 + 5 ≤ x → secAt (D.put (p : Int) m b).2 x = secAt D x := by
  have hput := put_is p m b hp hb hgt
  have hto := newestW_to D p
  have hsec : secsOf b ≤ 5 := by unfold secsOf; omega
  generalize (newestW D p).2 = to at hput hto
  have afar := wrs_far D to b (secsOf b)
  have agood := wrs_good h to b (secsOf b)
  have alen := wrs_len D to b (secsOf b)
  by_cases hlt : k < secsOf b
  · have h8 := wrs_torn (D := D) to b k (secsOf b) hB hk hlt (by omega)
    rw [if_pos (by rw [h8]; decide)] at hput
    rw [hput]
    exact ⟨rfl, agood, alen, fun x hx => afar x (by omega)⟩
  · have hke : k = secsOf b := by omega
    obtain ⟨a1, a2, a3, a4, a5⟩ := wrs_room (D := D) to b (secsOf b) ⟨hB, .inr (by omega)⟩ (by omega)
    have h0 : (wrs D to b (secsOf b)).2.left = 0 := by rw [a3, hk]; unfold lessLeft; split <;> omega
    have hw := write_none h0 (to + 5) (mkB m b) (by rw [alen]; omega) (mkB_len m b)
    rw [if_neg (by rw [a1]; simp), hw, if_pos (by show (8 : Int) ≠ 0; decide)] at hput
    rw [hput]
    exact ⟨rfl, agood, alen, fun x hx => afar x (by omega)⟩

/-- Behind a torn one, what stood stands. -/
theorem torn_newest {D D' : Dsk} (p : Nat) (hraw : rawOk D p) (hfar : ∀ x, x < (newestW D p).2 ∨ (newestW D p).2 + 5 ≤ x → secAt D' x = secAt D x) : (newestW D' p).1 = (newestW D p).1 := by
  obtain ⟨r1, r2, r3⟩ := hraw
  have hnum' : ∀ q, (q = p ∨ q = p + 6) → numAt D' q = numAt D q := fun q hq => by
    unfold numAt
    rw [hfar _ (by rcases newestW_to D p with h | h <;> rw [h] <;> omega)]
  have hp0 := place_num D' p
  have hp6 := place_num D' (p + 6)
  rw [hnum' p (.inl rfl)] at hp0
  rw [hnum' (p + 6) (.inr rfl)] at hp6
  by_cases h1 : (place D p).1 < (place D (p + 6)).1
  · have hn : newestW D p = (place D (p + 6), p) := if_pos h1
    rw [hn] at r1 r2 r3 hfar ⊢
    dsimp only at r1 r2 r3 hfar ⊢
    have e6 := place_same (D := D) (D' := D') (p + 6) (fun i hi => hfar _ (by omega))
    have : (place D' p).1 < (place D' (p + 6)).1 := by rw [e6]; omega
    unfold newestW
    rw [if_pos this, e6]
  · by_cases h2 : 0 < (place D p).1
    · have hn : newestW D p = (place D p, p + 6) := by unfold newestW; rw [if_neg h1, if_pos h2]
      rw [hn] at r1 r2 r3 hfar ⊢
      dsimp only at r1 r2 r3 hfar ⊢
      have e0 := place_same (D := D) (D' := D') p (fun i hi => hfar _ (by omega))
      unfold newestW
      rw [e0, if_neg (by omega), if_pos h2]
    · have hn : newestW D p = ((0, []), p) := by unfold newestW; rw [if_neg h1, if_neg h2]
      rw [hn] at r1 r2 r3 hfar ⊢
      dsimp only at r1 r2 r3 hfar ⊢
      unfold newestW
      rw [if_neg (by omega), if_neg (by omega)]

theorem put_old {D : Dsk} (p m : Nat) (b : List UInt8) (hp : p + 12 ≤ D.secs.length) (hb : b.length ≤ 320) (hle : m ≤ (newestW D p).1.1) : D.put (p : Int) m b = (10, D) := by
  unfold Dsk.put
  rw [if_neg (by omega), if_neg (by omega), if_pos (by show m ≤ (newestW D p).1.1; omega)]
theorem put_limit {D : Dsk} (p m : Nat) (b : List UInt8) (hp : p + 12 ≤ D.secs.length) (hb : 320 < b.length) : D.put (p : Int) m b = (3, D) := by
  unfold Dsk.put
  rw [if_neg (by omega), if_pos hb]
theorem get_is {D : Dsk} (p : Nat) (hp : p + 12 ≤ D.secs.length) : D.get (p : Int) = ((newestW D p).1.1, (newestW D p).1.2, 0) := if_neg (by omega)

/-- A new disk. -/
def newD (n : Nat) : Dsk := ⟨List.replicate n zsec, -1, false, 0⟩
theorem newD_good (n : Nat) : (newD n).good := fun s hs => by
  have : s = zsec := List.eq_of_mem_replicate hs
  rw [this]; exact zsec_length
theorem newD_len (n : Nat) : (newD n).secs.length = n := by simp [newD]
theorem newD_numAt (n p : Nat) : numAt (newD n) p = 0 := by
  unfold numAt secAt newD
  by_cases h : p + 5 < n
  · have : (List.replicate n zsec).getD (p + 5) [] = zsec := by simp [h]
    rw [this]; rfl
  · have : (List.replicate n zsec).getD (p + 5) [] = [] := by simp [h]
    rw [this]; rfl
theorem newD_place (n p : Nat) : place (newD n) p = (0, []) := if_pos (.inl (newD_numAt n p))
theorem newD_newest (n p : Nat) : newestW (newD n) p = ((0, []), p) := by
  unfold newestW
  rw [newD_place, newD_place]
  rfl
theorem newD_raw (n p : Nat) : rawOk (newD n) p := by
  unfold rawOk
  rw [newD_newest, newD_numAt, newD_numAt]
  exact ⟨Nat.le_refl _, Nat.le_refl _, .inl rfl⟩

end Go.Proofs.YthenakdfdpdknaaGreatDoor

/- The document's slots (salesroomref19): the sum of a record; and what a place's bytes tell, by numbers; conditions: those typed. -/
namespace Go.Proofs.YthenakdfdpdknaaGreatDoor
open Go.RowKit
set_option linter.unusedVariables false
set_option linter.unusedSimpArgs false
set_option maxRecDepth 100000

theorem leB_cons (q : Nat) (x : UInt8) (j : Nat) : leB (q * 256 + x.toNat) (j + 1) = x :: leB q j := by
  have hx := x.toNat_lt
  induction j with
  | zero =>
    have e : leB (q * 256 + x.toNat) (0 + 1) = [UInt8.ofNat ((q * 256 + x.toNat) / 256 ^ 0)] := rfl
    rw [e]
    have : UInt8.ofNat ((q * 256 + x.toNat) / 256 ^ 0) = x := UInt8.toNat_inj.1 (by simp)
    rw [this]; rfl
  | succ j ih =>
    have e1 : leB (q * 256 + x.toNat) (j + 1 + 1) = leB (q * 256 + x.toNat) (j + 1) ++ [UInt8.ofNat ((q * 256 + x.toNat) / 256 ^ (j + 1))] := rfl
    have e2 : leB q (j + 1) = leB q j ++ [UInt8.ofNat (q / 256 ^ j)] := rfl
    have e3 : (q * 256 + x.toNat) / 256 ^ (j + 1) = q / 256 ^ j := by
      rw [Nat.pow_succ, Nat.mul_comm (256 ^ j) 256, ← Nat.div_div_eq_div_mul]
      congr 1
      omega
    rw [e1, ih, e2, e3]
    rfl
theorem leB_numOf (l : List UInt8) : leB (numOf l) l.length = l := by
  induction l with
  | nil => rfl
  | cons x l ih => rw [numOf_cons, List.length_cons, leB_cons, ih]

/-- The sum of a record. -/
def sumN (num : Nat) (b : List UInt8) : Nat := onN (onN 2166136261 (mk6 num b)) b
theorem sumN_lt (num : Nat) (b : List UInt8) : sumN num b < 4294967296 := onN_lt _ (onN_lt _ (by decide) _) _
theorem onN_append (n : Nat) (a b : List UInt8) : onN n (a ++ b) = onN (onN n a) b := by unfold onN; rw [List.foldl_append]
def sumAt (D : Dsk) (p : Nat) : Nat := numOf (((secAt D (p + 5)).drop 6).take 4)

theorem drop_split (h : List UInt8) (hl : h.length = 64) : h = h.take 4 ++ ((h.drop 4).take 2 ++ ((h.drop 6).take 4 ++ h.drop 10)) := by
  have e1 : h.drop 6 = (h.drop 6).take 4 ++ h.drop 10 := by
    have := (List.take_append_drop 4 (h.drop 6)).symm
    rwa [List.drop_drop] at this
  have e2 : h.drop 4 = (h.drop 4).take 2 ++ h.drop 6 := by
    have := (List.take_append_drop 2 (h.drop 4)).symm
    rwa [List.drop_drop] at this
  rw [← e1, ← e2, List.take_append_drop]
theorem place_is (D : Dsk) (p : Nat) (hl : (secAt D (p + 5)).length = 64) (hr : (run5 D p 5).length = 320) (hz : (secAt D (p + 5)).drop 10 = z54) (hm : manyAt D p ≤ 320) (hn : numAt D p ≠ 0) (hs : sumN (numAt D p) ((run5 D p 5).take (manyAt D p)) = sumAt D p) :
    place D p = (numAt D p, (run5 D p 5).take (manyAt D p)) := by
  unfold place
  rw [if_neg (by omega), if_pos]
  have hbl : ((run5 D p 5).take (manyAt D p)).length = manyAt D p := by rw [List.length_take]; omega
  have h4 : leB (numAt D p) 4 = (secAt D (p + 5)).take 4 := by
    have := leB_numOf ((secAt D (p + 5)).take 4)
    rwa [List.length_take, hl] at this
  have h2 : leB (manyAt D p) 2 = ((secAt D (p + 5)).drop 4).take 2 := by
    have := leB_numOf (((secAt D (p + 5)).drop 4).take 2)
    rwa [List.length_take, List.length_drop, hl] at this
  have h6 : leB (sumAt D p) 4 = ((secAt D (p + 5)).drop 6).take 4 := by
    have := leB_numOf (((secAt D (p + 5)).drop 6).take 4)
    rwa [List.length_take, List.length_drop, hl] at this
  have e : mkB (numAt D p) ((run5 D p 5).take (manyAt D p)) = leB (numAt D p) 4 ++ leB (manyAt D p) 2 ++ leB (sumN (numAt D p) ((run5 D p 5).take (manyAt D p))) 4 := by
    unfold mkB sumN mk6
    rw [hbl]
  rw [e, hs, h4, h2, h6, ← hz]
  have := drop_split _ hl
  simp only [List.append_assoc]
  exact this.symm
theorem place_no (D : Dsk) (p : Nat) (hl : (secAt D (p + 5)).length = 64) (hr : (run5 D p 5).length = 320)
    (h : (secAt D (p + 5)).drop 10 ≠ z54 ∨ 320 < manyAt D p ∨ numAt D p = 0 ∨ sumN (numAt D p) ((run5 D p 5).take (manyAt D p)) ≠ sumAt D p) : place D p = (0, []) := by
  unfold place
  by_cases hA : numAt D p = 0 ∨ 320 < manyAt D p
  · rw [if_pos hA]
  · rw [if_neg hA, if_neg]
    intro e
    have hbl : ((run5 D p 5).take (manyAt D p)).length = manyAt D p := by rw [List.length_take]; omega
    rcases h with h | h | h | h
    · apply h
      rw [← e, List.drop_append_of_le_length (by rw [mkB_length]; exact Nat.le_refl _), List.drop_eq_nil_of_le (by rw [mkB_length]; exact Nat.le_refl _), List.nil_append]
    · omega
    · omega
    · apply h
      unfold sumAt
      rw [← e]
      have e1 : mkB (numAt D p) ((run5 D p 5).take (manyAt D p)) = mk6 (numAt D p) ((run5 D p 5).take (manyAt D p)) ++ leB (sumN (numAt D p) ((run5 D p 5).take (manyAt D p))) 4 := rfl
      rw [e1, List.append_assoc, List.drop_left' (mk6_length _ _), List.take_left' (leB_length _ _), numOf_leB]
      have := sumN_lt (numAt D p) ((run5 D p 5).take (manyAt D p))
      omega

set_option maxHeartbeats 2000000 in
theorem rsum_any (num : Nat) (hn32 : num < 4294967296) (a : Option Addr) (n c : Nat) (b : List UInt8) (w : World) (hb : IsB w a n c b) (hm : b.length ≤ 65535) :
    Calls Tryz.prog 34 #[.int .u32 num, .slice a n c] w fun e w' => e = .returned (.int .u32 (sumN num b)) ∧ Below w.heap.size w w' := by
  obtain rfl := hb.1
  have HB := Lib.hid hb
  clear hb
  have e1 : IntKind.u64.wrap (num : Int) = (num : Int) := by rw [IntKind.wrap_u64]; omega
  have e2 : IntKind.u64.wrap (b.length : Int) = (b.length : Int) := by rw [IntKind.wrap_u64]; omega
  go_enter Tryz.func34, Tryz.ntmps34
  go_wp2_with fail
  refine (rput_any none 0 0 [] num 4 w (IsB.nil _) (by simp) (by omega) (by decide)).mono ?_; rintro e w1 ⟨a1, c1, rfl, hb1, ho1⟩
  have hi1 := isB_of_owns ho1 (by simp [leB_length])
  rw [List.nil_append] at hi1
  go_wp2_with fail
  refine (rput_any a1 _ c1 (leB num 4) b.length 2 w1 hi1 (by rw [leB_length]; decide) (by omega) (by decide)).mono ?_; rintro e w2 ⟨a2, c2, rfl, hb2, ho2⟩
  have ho2' : w2.ownsRow w1.heap.size 5 1 (.slice a2 6 c2) 6 (bcells (mk6 num b)) := by
    rw [leB_length] at ho2
    exact ho2
  have hl4 : (leB num 4).length = 4 := leB_length _ _
  rw [hl4]
  have HB2 := HB.out.below (hb1.trans (hb2.mono hb1.size))
  have hat := HB2.at
  have hlb : Hid ((bcells b).length = b.length * 1) := Lib.hid (by rw [bcells_length]; omega)
  have HBB := Lib.hid (hb1.trans (hb2.mono hb1.size))
  have HSZ : Hid (w1.heap.size ≤ w2.heap.size) := Lib.hid hb2.size
  have HS1 : Hid (w.heap.size ≤ w1.heap.size) := Lib.hid hb1.size
  clear hi1 ho1 ho2 hb1 hb2 HB2
  go_wp2_with (first
    | (at_builtin; refine wpList_append_any rowU8 rfl (.tmp 14) (.tmp 15) rfl w1.heap.size (.slice a2 6 c2) 6 (bcells (mk6 num b)) rfl ho2' a b.length c (bcells b) rfl hlb.out hat (bcells_one b) (by unfold maxLen; omega) (by omega) HSZ.out ?_; intro b3 c3 w3 hown3 hg3 hat3)
    | fail)
  have hb3 : Below w2.heap.size w2 w3 ∨ True := .inr trivial
  have hB3 : Below w.heap.size w w3 := HBB.out.grown hg3 HBB.out.size (fun i hi => by
    have := (ho2'.lt i hi).1
    have := HS1.out
    omega)
  rw [← bcells_append] at hown3
  have hi3 := isB_of_owns hown3 (by rw [List.length_append, mk6_length])
  have HB3 := Lib.hid hB3
  clear hown3 hg3 hat3 hB3 hb3 ho2' hat hlb
  refine (rof_any b3 _ c3 (mk6 num b ++ b) w3 hi3).mono ?_; rintro e w4 ⟨rfl, rfl⟩
  go_wp2_with fail
  go_ret
  refine ⟨?_, HB3.out⟩
  rw [onN_append]; rfl

end Go.Proofs.YthenakdfdpdknaaGreatDoor

/- The document's slots (salesroomref19): what stands in a place; conditions: those typed. -/
namespace Go.Proofs.YthenakdfdpdknaaGreatDoor
open Go.RowKit
set_option linter.unusedVariables false
set_option linter.unusedSimpArgs false
set_option maxRecDepth 100000

theorem rread_sec (B rd rl rc : Nat) (R : Dsk) (n : Nat) (nI : Int) (w : World) (h : IsRef w B rd rl rc R) (hI : nI = (n : Int)) (hn : n < R.secs.length) :
    Calls Tryz.prog 95 #[.pointer (some ⟨rd, 0, none⟩), .int .i64 nI] w fun e w' => ∃ b off c, e = .returned (.tuple #[.slice (some ⟨b, off, none⟩) 64 c, .int .i64 0]) ∧ Below w.heap.size w w' ∧ IsB w' (some ⟨b, off, none⟩) 64 c (secAt R n) := by
  subst hI
  refine (rread_good B rd rl rc R n w h hn).mono ?_
  rintro e w' ⟨a, c, rfl, hb, hi⟩
  have e1 : secAt R n = R.secs[n] := by unfold secAt; simp [hn]
  have h64 := h.secs _ (List.getElem_mem hn)
  rw [← e1] at hi h64
  obtain ⟨b, off, rfl⟩ := hi.nonnil (by omega)
  exact ⟨b, off, c, rfl, hb, hi⟩
theorem rsec_length {w : World} {B rd rl rc : Nat} {R : Dsk} (h : IsRef w B rd rl rc R) (i : Nat) (hi : i < R.secs.length) : (secAt R i).length = 64 := by
  have e1 : secAt R i = R.secs[i] := by unfold secAt; simp [hi]
  rw [e1]
  exact h.secs _ (List.getElem_mem hi)
theorem rrun5_length {w : World} {B rd rl rc : Nat} {R : Dsk} (h : IsRef w B rd rl rc R) (p j : Nat) (hj : p + j ≤ R.secs.length) : (run5 R p j).length = 64 * j := run5_len h.secs p j hj
theorem drop_z54 (l : List UInt8) (hl : l.length = 64) (h : ∀ i (hi : i < l.length), 10 ≤ i → l[i] = 0) : l.drop 10 = z54 := by
  apply List.ext_getElem
  · simp [z54, hl]
  · intro i h1 h2
    rw [List.getElem_drop]
    simp only [z54, List.getElem_replicate]
    exact h _ (by simp at h1; omega) (by omega)
theorem drop_not (l : List UInt8) (i : Nat) (hi : i < l.length) (h10 : 10 ≤ i) (h : l[i] ≠ 0) : l.drop 10 ≠ z54 := fun e => by
  apply h
  have h1 : (l.drop 10)[i - 10]? = some l[i] := by
    rw [List.getElem?_drop, show 10 + (i - 10) = i by omega, List.getElem?_eq_getElem hi]
  rw [e] at h1
  unfold z54 at h1
  rw [List.getElem?_replicate] at h1
  split at h1
  · simpa using h1.symm
  · cases h1

set_option maxHeartbeats 8000000 in
theorem rstands_any (B rd rl rc : Nat) (R : Dsk) (p : Nat) (pI : Int) (w : World) (h : IsRef w B rd rl rc R) (hI : pI = (p : Int)) (hp : p + 5 < R.secs.length) :
    Calls Tryz.prog 71 #[.pointer (some ⟨rd, 0, none⟩), .int .i64 pI] w fun e w' => ∃ a m c, e = .returned (.tuple #[.int .u32 (place R p).1, .slice a m c]) ∧ Below w.heap.size w w' ∧ IsB w' a m c (place R p).2 := by
  subst hI
  have hmost := h.most
  have hl64 := rsec_length h (p + 5) hp
  have hr5 := rrun5_length h p 5 (by omega)
  have HL := Lib.hid hl64
  have HR5 := Lib.hid hr5
  obtain ⟨S, hS⟩ : ∃ S, S = secAt R (p + 5) := ⟨_, rfl⟩
  obtain ⟨n4, hn4⟩ : ∃ n4, n4 = numAt R p := ⟨_, rfl⟩
  obtain ⟨m2, hm2⟩ : ∃ m2, m2 = manyAt R p := ⟨_, rfl⟩
  obtain ⟨s4, hs4⟩ : ∃ s4, s4 = sumAt R p := ⟨_, rfl⟩
  rw [← hS] at hl64
  have e4 : numOf (S.take 4) = n4 := by rw [hn4, hS]; rfl
  have e2 : numOf (((S.drop 4).take 60).take 2) = m2 := by rw [List.take_take, hm2, hS]; rfl
  have e6 : numOf (((S.drop 6).take 58).take 4) = s4 := by rw [List.take_take, hs4, hS]; rfl
  have b4 : n4 < 4294967296 := by
    have := numOf_lt (S.take 4)
    rw [List.length_take, hl64, e4] at this
    exact this
  have b2 : m2 < 65536 := by
    have := numOf_lt (((S.drop 4).take 60).take 2)
    rw [e2, List.length_take, List.length_take, List.length_drop, hl64] at this
    exact this
  have b6 : s4 < 4294967296 := by
    have := numOf_lt (((S.drop 6).take 58).take 4)
    rw [e6, List.length_take, List.length_take, List.length_drop, hl64] at this
    exact this
  have HS := Lib.hid hS
  have HN4 := Lib.hid hn4
  have HM2 := Lib.hid hm2
  have HS4 := Lib.hid hs4
  have H := Lib.hid h
  have E4 := Lib.hid e4
  have E2 := Lib.hid e2
  have E6 := Lib.hid e6
  have x1 : IntKind.u32.wrap (n4 : Int) = (n4 : Int) := by rw [IntKind.wrap_u32]; omega
  clear h hr5 hS hn4 hm2 hs4 e4 e2 e6
  go_enter Tryz.func71, Tryz.ntmps71
  go_wp2_with fail
  refine (rread_sec B rd rl rc R (p + 5) _ w H.out (by omega) hp).mono ?_; rintro e w1 ⟨b, off, c, rfl, hb1, hi1⟩
  rw [← HS.out] at hi1
  have hc64 : 64 ≤ c := by have := hi1.2.1; omega
  have hcm : c ≤ 9223372036854775807 := by have := hi1.2.2.1; unfold maxLen at this; omega
  have HB1 := Lib.hid hb1
  have HI1 := Lib.hid hi1
  have HR1 := Lib.hid (H.out.below hb1)
  clear hb1 hi1
  go_wp2_with fail
  refine (rget_any _ 64 c 4 _ S w1 rfl HI1.out (by decide) (by decide) (by omega)).mono ?_; rintro e w' ⟨rfl, rfl⟩
  rw [E4.out]
  go_wp2_with fail
  have hsub4 := HI1.out.sub 4 60 (c - 4) (by omega) (by omega) (by omega)
  have hsub6 := HI1.out.sub 6 58 (c - 6) (by omega) (by omega) (by omega)
  have hl60 : ((S.drop 4).take 60).length = 60 := by simp [hl64]
  have hl58 : ((S.drop 6).take 58).length = 58 := by simp [hl64]
  refine (rget_any _ 60 (c - 4) 2 _ ((S.drop 4).take 60) w1 rfl hsub4 (by decide) (by decide) (by omega)).mono ?_; rintro e w' ⟨rfl, rfl⟩
  rw [E2.out]
  go_wp2_with fail
  refine (rget_any _ 58 (c - 6) 4 _ ((S.drop 6).take 58) w1 rfl hsub6 (by decide) (by decide) (by omega)).mono ?_; rintro e w' ⟨rfl, rfl⟩
  rw [E6.out]
  clear hsub4 hsub6 hl60 hl58
  go_wp2_with fail
  obtain ⟨P, hP⟩ : ∃ P, P = 64 := ⟨_, rfl⟩
  have HP := Lib.hid hP
  clear hP
  go_loopw [14] (fun i wr => ∃ k : Nat, 10 ≤ k ∧ k ≤ 64 ∧ i = .int .i64 k ∧ Hid (∀ i (hi : i < S.length), 10 ≤ i → i < k → S[i] = 0) ∧ wr = w1) (fun i _ => P - (intOf i).toNat)
  case atStart => exact ⟨10, by decide, by decide, rfl, Lib.hid (fun i hi h1 h2 => by omega), rfl⟩
  case round =>
    obtain ⟨k, hk10, hk, rfl, HZ, rfl⟩ := hrel
    by_cases hlt : k < 64
    · have hkS : k < S.length := by omega
      have c1 : wr.cell? ⟨b, off + k, none⟩ = some (.int .u8 S[k].toNat) := by
        rcases HI1.out.2.2.2 with ⟨h0, _⟩ | ⟨b', off', e, _, hc⟩
        · rw [h0] at hkS; simp at hkS
        · cases e; exact hc k hkS
      by_cases h0 : S[k] = 0
      · have hd : ((S[k].toNat : Int) != 0) = false := by rw [h0]; rfl
        have hZ2 : Hid (∀ i (hi : i < S.length), 10 ≤ i → i < k + 1 → S[i] = 0) := Lib.hid (fun i hi h1 h2 => by
          by_cases hik : i = k
          · subst hik; exact h0
          · exact HZ.out i hi h1 (by omega))
        clear h0 HZ
        go_wp2_with fail
        go_roundw
        case rel => exact ⟨k + 1, by omega, by omega, by go_num, hZ2, trivial⟩
        case measure => have := HP.out; simp [intOf]; omega
      · have hd : ((S[k].toNat : Int) != 0) = true := by
          rw [bne_iff_ne]
          intro e
          exact h0 (UInt8.toNat_inj.1 (by have : S[k].toNat = 0 := by omega
                                          rw [this]; rfl))
        have HPL : Hid (place R p = (0, [])) := Lib.hid (place_no R p HL.out HR5.out (.inl (by rw [← HS.out]; exact drop_not S k hkS hk10 h0)))
        clear h0
        go_wp2_with fail
        go_ret2
        rw [HPL.out]
        exact ⟨none, 0, 0, rfl, HB1.out, isB_nil _⟩
    · have hd64 : decide ((k : Int) < 64) = false := by simp; omega
      have HZZ : Hid (S.drop 10 = z54) := Lib.hid (drop_z54 S hl64 (fun i hi h => HZ.out i hi h (by omega)))
      clear HZ HP
      by_cases hmm : 320 < m2
      · have HPL : Hid (place R p = (0, [])) := Lib.hid (place_no R p HL.out HR5.out (.inr (.inl (by rw [← HM2.out]; exact hmm))))
        go_wp2_with fail
        go_ret2
        rw [HPL.out]
        exact ⟨none, 0, 0, rfl, HB1.out, isB_nil _⟩
      · have hm320 : m2 ≤ 320 := by omega
        have HR1' := HR1
        go_wp2_with fail
        obtain ⟨P, hP⟩ : ∃ P, P = 5 := ⟨_, rfl⟩
        have HP := Lib.hid hP
        clear hP
        go_loopw [16, 15] (fun i s wk => ∃ t nn : Nat, ∃ b' c', t ≤ 5 ∧ i = .int .i64 t ∧ s = .slice b' nn c' ∧ Hid (nn = 64 * t) ∧ Hid (wk.ownsRow w.heap.size 5 1 (.slice b' nn c') nn (bcells (run5 R p t))) ∧ Hid (Below w.heap.size w wk)) (fun i _ _ => P - (intOf i).toNat)
        case atStart => exact ⟨0, 0, none, 0, by decide, rfl, rfl, Lib.hid rfl, Lib.hid (World.ownsRow_nil _ _ _ _), HB1⟩
        case round =>
          obtain ⟨t, nn, b', c', ht, rfl, rfl, HNN, HO, HB⟩ := hrel
          have hn320 : nn ≤ 320 := by have := HNN.out; omega
          by_cases ht5 : t < 5
          · go_wp2_with fail
            refine (rread_sec B rd rl rc R (p + t) _ _ (H.out.below HB.out) (by omega) (by omega)).mono ?_; rintro e w3 ⟨b3, off3, c3, rfl, hb3, hi3⟩
            have HO3 := Lib.hid (owns_below HO.out hb3)
            have HB3 := Lib.hid (HB.out.trans (hb3.mono HB.out.size))
            have hat := hi3.at
            have hls : (secAt R (p + t)).length = 64 := hi3.1.symm
            have hlb : Hid ((bcells (secAt R (p + t))).length = 64 * 1) := Lib.hid (by rw [bcells_length, hls])
            clear hb3 hi3 hls
            go_wp2_with (first
              | (at_builtin; refine wpList_append_any rowU8 rfl (.tmp 67) (.tmp 68) rfl w.heap.size (.slice b' nn c') nn (bcells (run5 R p t)) rfl HO3.out (some ⟨b3, off3, none⟩) 64 c3 (bcells (secAt R (p + t))) rfl hlb.out hat (bcells_one _) (by unfold maxLen; omega) (by omega) HB3.out.size ?_; intro b4 c4 w4 hown4 hg4 hat4)
              | fail)
            have HB4 := Lib.hid (HB3.out.grown hg4 HB3.out.size (fun i hi => (HO3.out.lt i hi).1))
            have HO4 : Hid (w4.ownsRow w.heap.size 5 1 (.slice b4 (nn + 64) c4) (nn + 64) (bcells (run5 R p (t + 1)))) := Lib.hid (by
              rw [← bcells_append] at hown4
              exact hown4)
            clear hown4 hg4 hat4 hat hlb
            go_wp2_with fail
            go_roundw
            case rel => exact ⟨t + 1, nn + 64, b4, c4, by omega, by go_num, rfl, Lib.hid (by have := HNN.out; omega), HO4, HB4⟩
            case measure => have := HP.out; simp [intOf]; omega
          · have hte : t = 5 := by omega
            subst hte
            obtain rfl : nn = 320 := by have := HNN.out; omega
            have hi5 := isB_of_owns HO.out (by rw [HR5.out])
            obtain ⟨g, og, rfl⟩ := hi5.nonnil (by rw [HR5.out]; decide)
            have hc' : 320 ≤ c' := by have := hi5.2.1; rw [HR5.out] at this; omega
            have hcm' : c' ≤ 9223372036854775807 := by have := hi5.2.2.1; unfold maxLen at this; omega
            have hib : ∀ u : World, u = wr → IsB u (some ⟨g, og, none⟩) m2 c' ((run5 R p 5).take m2) := fun u hu => by
              subst hu
              have := hi5.sub 0 m2 c' (by rw [HR5.out]; omega) (by omega) (Nat.le_refl _)
              simpa using this
            have HIB := Lib.hid (hib wr rfl)
            have hbl : ((run5 R p 5).take m2).length ≤ 65535 := by rw [List.length_take]; omega
            clear hi5 hib HP
            by_cases hn0 : n4 = 0
            · have HPL : Hid (place R p = (0, [])) := Lib.hid (place_no R p HL.out HR5.out (.inr (.inr (.inl (by rw [← HN4.out]; exact hn0)))))
              have hd : ((n4 : Int) == 0) = true := by rw [hn0]; rfl
              clear hn0
              go_wp2_with fail
              go_ret2
              rw [HPL.out]
              exact ⟨none, 0, 0, rfl, HB.out, isB_nil _⟩
            · have hd : ((n4 : Int) == 0) = false := by rw [beq_eq_false_iff_ne]; omega
              have hsl := sumN_lt n4 ((run5 R p 5).take m2)
              obtain ⟨sv, hsv⟩ : ∃ sv, sv = sumN n4 ((run5 R p 5).take m2) := ⟨_, rfl⟩
              have HSUM : Hid (Calls Tryz.prog 34 #[.int .u32 n4, .slice (some ⟨g, og, none⟩) m2 c'] wr fun e w' => e = .returned (.int .u32 sv) ∧ Below wr.heap.size wr w') := Lib.hid (by rw [hsv]; exact rsum_any n4 b4 _ m2 c' _ wr HIB.out hbl)
              rw [← hsv] at hsl
              have HSV := Lib.hid hsv
              have x2 : IntKind.u64.wrap (sv : Int) = (sv : Int) := by rw [IntKind.wrap_u64]; omega
              clear hsv
              by_cases hss : sv = s4
              · have hd2 : ((sv : Int) != (s4 : Int)) = false := by rw [hss]; simp
                have HPL : Hid (place R p = (n4, (run5 R p 5).take m2)) := Lib.hid (by
                  rw [HN4.out, HM2.out]
                  refine place_is R p HL.out HR5.out (by rw [← HS.out]; exact HZZ.out) (by rw [← HM2.out]; exact hm320) (by rw [← HN4.out]; exact hn0) ?_
                  rw [← HN4.out, ← HM2.out, ← HS4.out, ← HSV.out]; exact hss)
                clear hss hn0
                go_wp2_with fail
                refine HSUM.out.mono ?_; rintro e w5 ⟨rfl, hb5⟩
                have HB5 := Lib.hid (HB.out.trans (hb5.mono HB.out.size))
                have HI5 := Lib.hid (HIB.out.below hb5)
                clear hb5
                go_wp2_with fail
                go_ret2
                rw [HPL.out]
                exact ⟨some ⟨g, og, none⟩, m2, c', rfl, HB5.out, HI5.out⟩
              · have hd2 : ((sv : Int) != (s4 : Int)) = true := by rw [bne_iff_ne]; omega
                have HPL : Hid (place R p = (0, [])) := Lib.hid (place_no R p HL.out HR5.out (.inr (.inr (.inr (by rw [← HN4.out, ← HM2.out, ← HS4.out, ← HSV.out]; exact hss)))))
                clear hss hn0
                go_wp2_with fail
                refine HSUM.out.mono ?_; rintro e w5 ⟨rfl, hb5⟩
                have HB5 := Lib.hid (HB.out.trans (hb5.mono HB.out.size))
                clear hb5
                go_wp2_with fail
                go_ret2
                rw [HPL.out]
                exact ⟨none, 0, 0, rfl, HB5.out, isB_nil _⟩

end Go.Proofs.YthenakdfdpdknaaGreatDoor

/- The document's slots (salesroomref19): the newest of both, and whether a slot is there; conditions: those typed. -/
namespace Go.Proofs.YthenakdfdpdknaaGreatDoor
open Go.RowKit
set_option linter.unusedVariables false
set_option linter.unusedSimpArgs false
set_option maxRecDepth 100000

/-- In which place the newest is, as the document says it. -/
def rwhich (R : Dsk) (p : Nat) : Int := if (place R p).1 < (place R (p + 6)).1 then 1 else 0
theorem place_zero (D : Dsk) (p : Nat) (h : (place D p).1 = 0) : place D p = (0, []) := by
  unfold place at h ⊢
  by_cases hA : numAt D p = 0 ∨ 320 < manyAt D p
  · rw [if_pos hA]
  · rw [if_neg hA] at h ⊢
    split at h
    · exact absurd (.inl h) hA
    · rename_i h2
      rw [if_neg h2]
theorem newest_hi (D : Dsk) (p : Nat) (h : (place D p).1 < (place D (p + 6)).1) : newestW D p = (place D (p + 6), p) := if_pos h
theorem newest_lo (D : Dsk) (p : Nat) (h : ¬ (place D p).1 < (place D (p + 6)).1) : (newestW D p).1 = place D p := by
  unfold newestW
  rw [if_neg h]
  split
  · rfl
  · rename_i h2
    rw [place_zero D p (by omega)]
/-- Where a record goes to. -/
theorem newest_to (D : Dsk) (p : Nat) : (newestW D p).2 = if 0 < (newestW D p).1.1 ∧ rwhich D p = 0 then p + 6 else p := by
  by_cases h : (place D p).1 < (place D (p + 6)).1
  · have e : rwhich D p = 1 := if_pos h
    rw [newest_hi D p h, e, if_neg (by omega)]
  · have e : rwhich D p = 0 := if_neg h
    rw [newest_lo D p h, e]
    unfold newestW
    rw [if_neg h]
    by_cases h2 : 0 < (place D p).1
    · rw [if_pos h2, if_pos ⟨h2, rfl⟩]
    · rw [if_neg h2, if_neg (fun h3 => h2 h3.1)]

set_option maxHeartbeats 2000000 in
theorem rnewest_any (B rd rl rc : Nat) (R : Dsk) (p : Nat) (pI : Int) (w : World) (h : IsRef w B rd rl rc R) (hI : pI = (p : Int)) (hp : p + 12 ≤ R.secs.length) :
    Calls Tryz.prog 32 #[.pointer (some ⟨rd, 0, none⟩), .int .i64 pI] w fun e w' => ∃ a m c, e = .returned (.tuple #[.int .i64 (rwhich R p), .int .u32 (newestW R p).1.1, .slice a m c]) ∧ Below w.heap.size w w' ∧ IsB w' a m c (newestW R p).1.2 := by
  subst hI
  have hmost := h.most
  have H := Lib.hid h
  clear h
  obtain ⟨n0, hn0⟩ : ∃ n0, n0 = (place R p).1 := ⟨_, rfl⟩
  obtain ⟨n1, hn1⟩ : ∃ n1, n1 = (place R (p + 6)).1 := ⟨_, rfl⟩
  have S0 : Hid (∀ (w : World), IsRef w B rd rl rc R → Calls Tryz.prog 71 #[.pointer (some ⟨rd, 0, none⟩), .int .i64 p] w fun e w' => ∃ a m c, e = .returned (.tuple #[.int .u32 n0, .slice a m c]) ∧ Below w.heap.size w w' ∧ IsB w' a m c (place R p).2) := Lib.hid (fun w h => by rw [hn0]; exact rstands_any B rd rl rc R p _ w h rfl (by omega))
  have S1 : Hid (∀ (w : World), IsRef w B rd rl rc R → Calls Tryz.prog 71 #[.pointer (some ⟨rd, 0, none⟩), .int .i64 ((p : Int) + 6)] w fun e w' => ∃ a m c, e = .returned (.tuple #[.int .u32 n1, .slice a m c]) ∧ Below w.heap.size w w' ∧ IsB w' a m c (place R (p + 6)).2) := Lib.hid (fun w h => by rw [hn1]; exact rstands_any B rd rl rc R (p + 6) _ w h (by omega) (by omega))
  by_cases hlt : n0 < n1
  · have HW : Hid (rwhich R p = 1 ∧ (newestW R p).1 = place R (p + 6) ∧ (newestW R p).1.1 = n1) := Lib.hid (by
      have hh : (place R p).1 < (place R (p + 6)).1 := by rw [← hn0, ← hn1]; exact hlt
      exact ⟨if_pos hh, by rw [newest_hi R p hh], by rw [newest_hi R p hh, hn1]⟩)
    have hd : decide (n0 < n1) = true := decide_eq_true hlt
    clear hn0 hn1 hlt
    go_enter Tryz.func32, Tryz.ntmps32
    go_wp2_with fail
    refine (S0.out w H.out).mono ?_; rintro e w1 ⟨a0, m0, c0, rfl, hb1, hi1⟩
    go_wp2_with fail
    refine (S1.out w1 (H.out.below hb1)).mono ?_; rintro e w2 ⟨a1, m1, c1, rfl, hb2, hi2⟩
    have HB2 := Lib.hid (hb1.trans (hb2.mono hb1.size))
    have HI2 := Lib.hid hi2
    clear hb1 hb2 hi1 hi2
    go_wp2_with fail
    go_ret3
    obtain ⟨e1, e2, e3⟩ := HW.out
    exact ⟨a1, m1, c1, by rw [e1, e3]; rfl, HB2.out, by rw [e2]; exact HI2.out⟩
  · have HW : Hid (rwhich R p = 0 ∧ (newestW R p).1 = place R p ∧ (newestW R p).1.1 = n0) := Lib.hid (by
      have hh : ¬ (place R p).1 < (place R (p + 6)).1 := by rw [← hn0, ← hn1]; exact hlt
      exact ⟨if_neg hh, newest_lo R p hh, by rw [newest_lo R p hh, hn0]⟩)
    have hd : decide (n0 < n1) = false := decide_eq_false hlt
    clear hn0 hn1 hlt
    go_enter Tryz.func32, Tryz.ntmps32
    go_wp2_with fail
    refine (S0.out w H.out).mono ?_; rintro e w1 ⟨a0, m0, c0, rfl, hb1, hi1⟩
    have HI1 := Lib.hid hi1
    go_wp2_with fail
    refine (S1.out w1 (H.out.below hb1)).mono ?_; rintro e w2 ⟨a1, m1, c1, rfl, hb2, hi2⟩
    have HB2 := Lib.hid (hb1.trans (hb2.mono hb1.size))
    have HI2 := Lib.hid (HI1.out.below hb2)
    clear hb1 hb2 hi1 hi2
    go_wp2_with fail
    go_ret3
    obtain ⟨e1, e2, e3⟩ := HW.out
    exact ⟨a0, m0, c0, by rw [e1, e3]; rfl, HB2.out, by rw [e2]; exact HI2.out⟩

theorem rthere_any (B rd rl rc : Nat) (R : Dsk) (p : Int) (w : World) (h : IsRef w B rd rl rc R) :
    Calls Tryz.prog 31 #[.pointer (some ⟨rd, 0, none⟩), .int .i64 p] w fun e w' => e = .returned (.bool (decide (¬ (p < 0 ∨ (R.secs.length : Int) - 12 < p)))) ∧ w = w' := by
  have hm := h.most
  have hp := h.pos
  have H := Lib.hid h
  clear h
  by_cases h0 : p < 0
  · have d0 : decide (0 ≤ p) = false := decide_eq_false (by omega)
    have d1 : decide (¬ (p < 0 ∨ (R.secs.length : Int) - 12 < p)) = false := decide_eq_false (by omega)
    rw [d1]
    clear d1 h0
    go_enter Tryz.func31, Tryz.ntmps31
    go_wp2_with fail
    go_ret
    exact ⟨rfl, rfl⟩
  · have d0 : decide (0 ≤ p) = true := decide_eq_true (by omega)
    by_cases h1 : (R.secs.length : Int) - 12 < p
    · have d1 : decide (p ≤ (R.secs.length : Int) - 12) = false := decide_eq_false (by omega)
      have d2 : decide (¬ (p < 0 ∨ (R.secs.length : Int) - 12 < p)) = false := decide_eq_false (by omega)
      rw [d2]
      clear d2 h0 h1
      go_enter Tryz.func31, Tryz.ntmps31
      go_wp2_with fail
      refine (rlen_any B rd rl rc R w H.out).mono ?_; rintro e w' ⟨rfl, rfl⟩
      go_wp2_with fail
      go_ret
      exact ⟨rfl, rfl⟩
    · have d1 : decide (p ≤ (R.secs.length : Int) - 12) = true := decide_eq_true (by omega)
      have d2 : decide (¬ (p < 0 ∨ (R.secs.length : Int) - 12 < p)) = true := decide_eq_true (by omega)
      rw [d2]
      clear d2 h0 h1
      go_enter Tryz.func31, Tryz.ntmps31
      go_wp2_with fail
      refine (rlen_any B rd rl rc R w H.out).mono ?_; rintro e w' ⟨rfl, rfl⟩
      go_wp2_with fail
      go_ret
      exact ⟨rfl, rfl⟩

end Go.Proofs.YthenakdfdpdknaaGreatDoor

/- The document's slots (salesroomref19): Put and Get; conditions: those typed. -/
namespace Go.Proofs.YthenakdfdpdknaaGreatDoor
open Go.RowKit
set_option linter.unusedVariables false
set_option linter.unusedSimpArgs false
set_option maxRecDepth 100000

theorem rnewest_lt {w : World} {B rd rl rc : Nat} {R : Dsk} (h : IsRef w B rd rl rc R) (p : Nat) (hp : p + 12 ≤ R.secs.length) : (newestW R p).1.1 < 4294967296 := by
  have h1 := place_lt R p (rsec_length h _ (by omega))
  have h2 := place_lt R (p + 6) (rsec_length h _ (by omega))
  unfold newestW
  split
  · exact h2
  · split
    · exact h1
    · show 0 < 4294967296; decide
theorem rnewest_short {w : World} {B rd rl rc : Nat} {R : Dsk} (h : IsRef w B rd rl rc R) (p : Nat) (hp : p + 12 ≤ R.secs.length) : (newestW R p).1.2.length ≤ 320 := by
  have h1 := place_short R p (rrun5_length h p 5 (by omega))
  have h2 := place_short R (p + 6) (rrun5_length h (p + 6) 5 (by omega))
  unfold newestW
  split
  · exact h2
  · split
    · exact h1
    · simp

theorem rroom_any (w : World) : Calls Tryz.prog 8 #[] w fun e w' => e = .returned (.int .i64 12) ∧ w = w' := by
  go_enter Tryz.func8, Tryz.ntmps8
  go_wp2
  go_ret
  exact ⟨rfl, rfl⟩

theorem isB_of_own {w : World} {B n c : Nat} {a : Option Addr} {l : List UInt8} (ho : w.ownsRow B 5 1 (.slice a n c) n (bcells l)) (hl : n = l.length) : IsB w a n c l := isB_of_owns ho hl

set_option maxHeartbeats 8000000 in
theorem rput19_any (B rd rl rc : Nat) (R : Dsk) (p : Int) (num : Nat) (a : Option Addr) (n c : Nat) (b : List UInt8) (k : Int) (w : World) (h : IsRef w B rd rl rc R) (hb : IsB w a n c b) (hab : ∀ x off, a = some ⟨x, off, none⟩ → b ≠ [] → ¬ (x = rd ∨ x = rl)) (hk : R.fine k) (hk2 : k ≤ 100000000) (hn : num < 4294967296) :
    Calls Tryz.prog 17 #[.pointer (some ⟨rd, 0, none⟩), .int .i64 p, .int .u32 num, .slice a n c] w fun e w' => e = .returned (.int .i64 (R.put p num b).1) ∧ Touch (fun k => k = rd ∨ k = rl) w w' ∧ IsRef w' B rd rl rc (R.put p num b).2 := by
  obtain rfl := hb.1
  have hm := h.most
  have hp := h.pos
  by_cases hr : p < 0 ∨ (R.secs.length : Int) - 12 < p
  · have hpl : R.put p num b = (1, R) := if_pos hr
    rw [hpl]
    have d2 : decide (¬ (p < 0 ∨ (R.secs.length : Int) - 12 < p)) = false := decide_eq_false (fun h => h hr)
    clear hpl hab hb hk hk2 hr
    go_enter Tryz.func17, Tryz.ntmps17
    go_wp2_with fail
    refine (rthere_any B rd rl rc R p w h).mono ?_; rintro e w' ⟨rfl, rfl⟩; rw [d2]
    go_wp2_with fail
    go_ret
    exact ⟨rfl, Touch.refl _ _, h⟩
  have d2 : decide (¬ (p < 0 ∨ (R.secs.length : Int) - 12 < p)) = true := decide_eq_true hr
  by_cases hl : 320 < b.length
  · have hpl : R.put p num b = (3, R) := by unfold Dsk.put; rw [if_neg hr, if_pos hl]
    rw [hpl]
    have d3 : decide ((320 : Int) < (b.length : Int)) = true := decide_eq_true (by omega)
    clear hpl hab hb hk hk2 hr hl
    go_enter Tryz.func17, Tryz.ntmps17
    go_wp2_with fail
    refine (rthere_any B rd rl rc R p w h).mono ?_; rintro e w' ⟨rfl, rfl⟩; rw [d2]
    go_wp2_with fail
    go_ret
    exact ⟨rfl, Touch.refl _ _, h⟩
  have d3 : decide ((320 : Int) < (b.length : Int)) = false := decide_eq_false (by omega)
  obtain ⟨q, rfl⟩ : ∃ q : Nat, p = (q : Int) := ⟨p.toNat, by omega⟩
  have hq : q + 12 ≤ R.secs.length := by omega
  obtain ⟨Z, hZ⟩ : ∃ Z, Z = R.put (q : Int) num b := ⟨_, rfl⟩
  rw [← hZ]
  obtain ⟨to, hto⟩ : ∃ to, to = (newestW R q).2 := ⟨_, rfl⟩
  obtain ⟨xn, hxn⟩ : ∃ xn, xn = (newestW R q).1.1 := ⟨_, rfl⟩
  obtain ⟨wh, hwh⟩ : ∃ wh, wh = rwhich R q := ⟨_, rfl⟩
  have HPUT : Hid (Z = if num ≤ xn then (10, R) else
      if (wrs R to b (secsOf b)).1 ≠ 0 then (8, (wrs R to b (secsOf b)).2) else
      if ((wrs R to b (secsOf b)).2.write (to + 5 : Nat) (mkB num b)).1 ≠ 0 then (8, ((wrs R to b (secsOf b)).2.write (to + 5 : Nat) (mkB num b)).2) else
      (0, ((wrs R to b (secsOf b)).2.write (to + 5 : Nat) (mkB num b)).2)) := Lib.hid (by rw [hZ, hto, hxn]; unfold Dsk.put; rw [if_neg hr, if_neg hl]; rfl)
  have htoq := newestW_to R q
  rw [← hto] at htoq
  have htow := newest_to R q
  rw [← hto, ← hxn, ← hwh] at htow
  have hlt := rnewest_lt h q hq
  rw [← hxn] at hlt
  have hwh01 : wh = 0 ∨ wh = 1 := by rw [hwh]; unfold rwhich; split <;> simp
  have HNEW : Hid (∀ w, IsRef w B rd rl rc R → Calls Tryz.prog 32 #[.pointer (some ⟨rd, 0, none⟩), .int .i64 (q : Int)] w fun e w' => ∃ a m c, e = .returned (.tuple #[.int .i64 wh, .int .u32 xn, .slice a m c]) ∧ Below w.heap.size w w') := Lib.hid (fun w h => (rnewest_any B rd rl rc R q (q : Int) w h rfl hq).mono fun e w' ⟨a, m, c, h1, h2, _⟩ => ⟨a, m, c, by rw [hwh, hxn]; exact h1, h2⟩)
  have hto' : to ≤ q + 6 := by rcases htoq with h | h <;> omega
  have HTO := Lib.hid hto'
  have HQ := Lib.hid hq
  have HTW := Lib.hid htow
  have HAB := Lib.hid hab
  have HF := Lib.hid hk
  have HR := Lib.hid h
  have HB0 := Lib.hid hb
  have HL := Lib.hid hl
  clear hto hxn hwh htoq htow hr hp hZ hq hab hk h hb hl
  go_enter Tryz.func17, Tryz.ntmps17
  go_wp2_with fail
  refine (rthere_any B rd rl rc R _ w HR.out).mono ?_; rintro e w' ⟨rfl, rfl⟩; rw [d2]
  go_wp2_with fail
  refine (HNEW.out w HR.out).mono ?_; rintro e w1 ⟨xa, xm, xc, rfl, hb1⟩
  have hw1s := hb1.size
  have HR1 := Lib.hid (HR.out.below hb1)
  have HB1 := Lib.hid (HB0.out.below hb1)
  have HT1 : Hid (Touch (fun k => k = rd ∨ k = rl) w w1) := Lib.hid (Touch.of_below hb1)
  clear hb1
  by_cases hold : num ≤ xn
  · have d4 : decide (num ≤ xn) = true := decide_eq_true hold
    have HZ : Hid (Z = (10, R)) := Lib.hid (by rw [HPUT.out, if_pos hold])
    clear hold
    go_wp2_with fail
    go_ret
    rw [HZ.out]
    exact ⟨rfl, HT1.out, HR1.out⟩
  have d4 : decide (num ≤ xn) = false := decide_eq_false hold
  have HZ : Hid (Z = if (wrs R to b (secsOf b)).1 ≠ 0 then (8, (wrs R to b (secsOf b)).2) else
      if ((wrs R to b (secsOf b)).2.write (to + 5 : Nat) (mkB num b)).1 ≠ 0 then (8, ((wrs R to b (secsOf b)).2.write (to + 5 : Nat) (mkB num b)).2) else
      (0, ((wrs R to b (secsOf b)).2.write (to + 5 : Nat) (mkB num b)).2)) := Lib.hid (by rw [HPUT.out, if_neg hold])
  clear HPUT hold HNEW
  obtain ⟨N, hN⟩ : ∃ N, N = b.length + 64 := ⟨_, rfl⟩
  have HN := Lib.hid hN
  clear hN
  have hc : (0 < xn ∧ wh = 0 ∧ to = q + 6) ∨ (¬ 0 < xn ∧ to = q) ∨ (0 < xn ∧ wh = 1 ∧ to = q) := by
    by_cases h1 : 0 < xn
    · rcases hwh01 with h2 | h2
      · exact .inl ⟨h1, h2, by rw [HTW.out, if_pos ⟨h1, h2⟩]⟩
      · exact .inr (.inr ⟨h1, h2, by rw [HTW.out, if_neg (by omega)]⟩)
    · exact .inr (.inl ⟨h1, by rw [HTW.out, if_neg (by omega)]⟩)
  clear hwh01 HTW
  rcases hc with hc | hc | hc
  case' inl =>
    obtain ⟨h1, rfl, h3⟩ := hc
    have HTI : Hid (((q : Int) + 6) = (to : Int)) := Lib.hid (by omega)
    have hti0 : 0 ≤ (q : Int) + 6 := by omega
    have hti1 : (q : Int) + 6 ≤ 2000 := by have := HQ.out; omega
    have d5 : decide (0 < xn) = true := decide_eq_true h1
    clear h1 h3
    go_wp2_with fail
    generalize (q : Int) + 6 = toI at HTI hti0 hti1 ⊢
  case' inr.inl =>
    obtain ⟨h1, h3⟩ := hc
    have HTI : Hid ((q : Int) = (to : Int)) := Lib.hid (by omega)
    have hti0 : 0 ≤ (q : Int) := by omega
    have hti1 : (q : Int) ≤ 2000 := by have := HQ.out; omega
    have d5 : decide (0 < xn) = false := decide_eq_false h1
    clear h1 h3
    go_wp2_with fail
    generalize (q : Int) = toI at HTI hti0 hti1 ⊢
  case' inr.inr =>
    obtain ⟨h1, rfl, h3⟩ := hc
    have HTI : Hid ((q : Int) = (to : Int)) := Lib.hid (by omega)
    have hti0 : 0 ≤ (q : Int) := by omega
    have hti1 : (q : Int) ≤ 2000 := by have := HQ.out; omega
    have d5 : decide (0 < xn) = true := decide_eq_true h1
    clear h1 h3
    go_wp2_with fail
    generalize (q : Int) = toI at HTI hti0 hti1 ⊢
  all_goals
    go_loopw [13] (fun i wr => ∃ j : Nat, j ≤ secsOf b ∧ i = .int .i64 j ∧ Hid ((wrs R to b j).1 = 0) ∧ Hid (IsRef wr B rd rl rc (wrs R to b j).2) ∧ Hid (Touch (fun k => k = rd ∨ k = rl) w wr) ∧ Hid (IsB wr a b.length c b)) (fun i _ => N - (intOf i).toNat)
    case atStart => exact ⟨0, Nat.zero_le _, rfl, Lib.hid rfl, HR1, HT1, HB1⟩
    case round =>
      obtain ⟨j, hj, rfl, he, hd, ht, hbb⟩ := hrel
      have hsec : secsOf b * 64 ≤ b.length + 63 := by unfold secsOf; omega
      have hb320 : b.length ≤ 320 := by have := HL.out; omega
      have hj6 : j ≤ 6 := by omega
      by_cases hlt : j * 64 < b.length
      · obtain ⟨ab, ao, rfl⟩ := hbb.out.nonnil (by omega)
        have hcl : b.length ≤ c := hbb.out.2.1
        have hjs : j < secsOf b := by unfold secsOf; omega
        have HQD : Hid (toI + (j : Int) = ((to + j : Nat) : Int)) := Lib.hid (by have := HTI.out; omega)
        have hb1 : Hid (wrs R to b (j + 1) = (wrs R to b j).2.write ((to + j : Nat) : Int) (chunk b j)) := Lib.hid (if_neg (fun h => h he.out))
        have HOK : Hid (wrs R to b j).2.ok := Lib.hid ((wrs_fine HF.out to b j).ok (by omega))
        by_cases h1 : b.length ≤ j * 64 + 64
        case' pos =>
          have hsub : Hid (IsB wr (some ⟨ab, ao + j * 64, none⟩) (b.length - j * 64) (c - j * 64) (chunk b j)) := Lib.hid (by
            have := hbb.out.sub (j * 64) (b.length - j * 64) (c - j * 64) (by omega) (by omega) (by omega)
            unfold chunk
            rw [Nat.mul_comm 64 j, List.take_of_length_le (by simp; omega)]
            rwa [List.take_of_length_le (by simp)] at this)
        case' neg =>
          have hsub : Hid (IsB wr (some ⟨ab, ao + j * 64, none⟩) 64 (c - j * 64) (chunk b j)) := Lib.hid (by
            have := hbb.out.sub (j * 64) 64 (c - j * 64) (by omega) (by omega) (by omega)
            unfold chunk
            rwa [Nat.mul_comm 64 j])
        all_goals
          go_wp2_with fail
          rw [HQD.out]
          refine (rwrite_any B rd rl rc (wrs R to b j).2 ((to + j : Nat) : Int) _ _ (c - j * 64) (chunk b j) wr hd.out hsub.out HOK.out).mono ?_; rintro e w3 ⟨rfl, ht3, hd3⟩
          rw [← hb1.out] at hd3 ⊢
          have ht3' := ht.out.trans ht3
          have hb3 := hbb.out.touch ht3 (fun x off h hl => HAB.out x off h hl)
          by_cases he1 : (wrs R to b (j + 1)).1 = 0
          · have hd1 : ((wrs R to b (j + 1)).1 != 0) = false := by rw [he1]; rfl
            have HE1 := Lib.hid he1
            clear he1
            go_wp2_with fail
            go_roundw
            case rel => exact ⟨j + 1, by omega, by go_num, HE1, Lib.hid hd3, Lib.hid ht3', Lib.hid hb3⟩
            case measure => have := HN.out; simp [intOf]; omega
          · have hd1 : ((wrs R to b (j + 1)).1 != 0) = true := by rw [bne_iff_ne]; exact he1
            have HE1 := Lib.hid he1
            obtain ⟨i, hi⟩ : ∃ i, secsOf b = j + 1 + i := ⟨secsOf b - (j + 1), by omega⟩
            have hst := wrs_stuck R to b (j + 1) i he1
            rw [← hi] at hst
            have HRR : Hid (Z = (8, (wrs R to b (j + 1)).2)) := Lib.hid (by rw [HZ.out, if_pos (by rw [hst]; exact HE1.out), hst])
            clear he1 hst hi
            go_wp2_with fail
            go_ret
            rw [HRR.out]
            exact ⟨rfl, ht3', hd3⟩
      · have hjj : j = secsOf b := by unfold secsOf at hj ⊢; omega
        subst hjj
        have HOK : Hid (wrs R to b (secsOf b)).2.ok := Lib.hid ((wrs_fine HF.out to b (secsOf b)).ok (by omega))
        have HT5 : Hid (toI + 6 - 1 = ((to + 5 : Nat) : Int)) := Lib.hid (by have := HTI.out; omega)
        have HE := he
        have hhd := hd
        have hJ1 : b.length ≤ secsOf b * 64 := by omega
        have hJ2 : secsOf b ≤ 6 := hj6
        clear hj hsec hj6 hlt
        generalize hjj : secsOf b = J at HE hhd HOK hJ1 hJ2
        rw [hjj] at HZ
        clear hjj he hd
        go_wp2_with fail
        refine (rput_any none 0 0 [] num 4 wr (IsB.nil _) (by simp) (by omega) (by decide)).mono ?_; rintro e w2 ⟨a1, c1, rfl, hb1, ho1⟩
        have hi1 := isB_of_owns ho1 (by simp [leB_length])
        rw [List.nil_append] at hi1
        go_wp2_with fail
        refine (rput_any a1 _ c1 (leB num 4) b.length 2 w2 hi1 (by rw [leB_length]; decide) (by omega) (by decide)).mono ?_; rintro e w3 ⟨a2, c2, rfl, hb2, ho2⟩
        have hl4 : (leB num 4).length = 4 := leB_length _ _
        rw [hl4]
        have HB3 : Hid (Below wr.heap.size wr w3) := Lib.hid (hb1.trans (hb2.mono hb1.size))
        have hi3 : Hid (IsB w3 a2 6 c2 (mk6 num b)) := Lib.hid (by
          have := isB_of_owns ho2 (by rw [List.length_append, leB_length, leB_length])
          rw [hl4] at this
          exact this)
        clear hi1 ho1 ho2 hb1 hb2 hl4
        go_wp2_with fail
        refine (rsum_any num hn a b.length c b w3 (hbb.out.below HB3.out) (by omega)).mono ?_; rintro e w4 ⟨rfl, hb4⟩
        have HI4 := Lib.hid (hi3.out.below hb4)
        have HB4 : Hid (Below wr.heap.size wr w4) := Lib.hid (HB3.out.trans (hb4.mono HB3.out.size))
        obtain ⟨sv, hsv⟩ : ∃ sv, sv = sumN num b := ⟨_, rfl⟩
        rw [← hsv]
        have hs32 : sv < 4294967296 := by rw [hsv]; exact sumN_lt num b
        have HSV := Lib.hid hsv
        have e3 : IntKind.u64.wrap (sv : Int) = (sv : Int) := by rw [IntKind.wrap_u64]; omega
        clear hb4 hsv HB3 hi3
        go_wp2_with fail
        refine (rput_any a2 6 c2 (mk6 num b) sv 4 w4 HI4.out (by rw [mk6_length]; decide) (by omega) (by decide)).mono ?_; rintro e w5 ⟨a3, c3, rfl, hb5, ho5⟩
        have hi5 : Hid (IsB w5 a3 10 c3 (mkB num b)) := Lib.hid (by
          have := isB_of_owns ho5 (by rw [List.length_append, leB_length])
          rw [mk6_length, HSV.out] at this
          exact this)
        have hl6 : (mk6 num b).length = 6 := mk6_length _ _
        rw [hl6]
        have HB5 : Hid (Below wr.heap.size wr w5) := Lib.hid (HB4.out.trans (hb5.mono HB4.out.size))
        clear hb5 ho5 hl6 HB4 HI4
        have hr5 := hhd.out.below HB5.out
        have ht5 := ht.out.trans (Touch.of_below HB5.out)
        go_wp2_with fail
        rw [HT5.out]
        refine (rwrite_any B rd rl rc (wrs R to b J).2 ((to + 5 : Nat) : Int) a3 10 c3 (mkB num b) w5 hr5 hi5.out HOK.out).mono ?_; rintro e w6 ⟨rfl, ht6, hd6⟩
        have ht6' := ht5.trans ht6
        generalize ((wrs R to b J).2.write ((to + 5 : Nat) : Int) (mkB num b)) = W at hd6 HZ ⊢
        have hneg : ¬ (wrs R to b J).1 ≠ 0 := fun h => h HE.out
        by_cases he1 : W.1 = 0
        · have hd1 : (W.1 != 0) = false := by rw [he1]; rfl
          have HRR : Hid (Z = (0, W.2)) := Lib.hid (by rw [HZ.out, if_neg hneg, if_neg (by rw [he1]; simp)])
          clear he1 hneg
          go_wp2_with fail
          go_ret
          rw [HRR.out]
          exact ⟨rfl, ht6', hd6⟩
        · have hd1 : (W.1 != 0) = true := by rw [bne_iff_ne]; exact he1
          have HRR : Hid (Z = (8, W.2)) := Lib.hid (by rw [HZ.out, if_neg hneg, if_pos he1])
          clear he1 hneg
          go_wp2_with fail
          go_ret
          rw [HRR.out]
          exact ⟨rfl, ht6', hd6⟩

/-- What the document's Get answers is the program's. -/
theorem rget19_any (B rd rl rc : Nat) (R : Dsk) (p : Int) (w : World) (h : IsRef w B rd rl rc R) :
    Calls Tryz.prog 21 #[.pointer (some ⟨rd, 0, none⟩), .int .i64 p] w fun e w' => ∃ a m c, e = .returned (.tuple #[.int .u32 (R.get p).1, .slice a m c, .int .i64 (R.get p).2.2]) ∧ Below w.heap.size w w' ∧ IsB w' a m c (R.get p).2.1 := by
  have hm := h.most
  have hp := h.pos
  by_cases hr : p < 0 ∨ (R.secs.length : Int) - 12 < p
  · have hpl : R.get p = (0, [], 1) := if_pos hr
    rw [hpl]
    have d2 : decide (¬ (p < 0 ∨ (R.secs.length : Int) - 12 < p)) = false := decide_eq_false (fun h => h hr)
    clear hpl hr
    go_enter Tryz.func21, Tryz.ntmps21
    go_wp2_with fail
    refine (rthere_any B rd rl rc R p w h).mono ?_; rintro e w' ⟨rfl, rfl⟩; rw [d2]
    go_wp2_with fail
    go_ret3
    exact ⟨none, 0, 0, rfl, Below.refl _ _, IsB.nil _⟩
  have d2 : decide (¬ (p < 0 ∨ (R.secs.length : Int) - 12 < p)) = true := decide_eq_true hr
  obtain ⟨q, rfl⟩ : ∃ q : Nat, p = (q : Int) := ⟨p.toNat, by omega⟩
  have hq : q + 12 ≤ R.secs.length := by omega
  have hpl : R.get (q : Int) = ((newestW R q).1.1, (newestW R q).1.2, 0) := if_neg hr
  rw [hpl]
  have hsh := rnewest_short h q hq
  have hlt := rnewest_lt h q hq
  have HNEW : Hid (∀ w, IsRef w B rd rl rc R → Calls Tryz.prog 32 #[.pointer (some ⟨rd, 0, none⟩), .int .i64 (q : Int)] w fun e w' => ∃ a m c, e = .returned (.tuple #[.int .i64 (rwhich R q), .int .u32 (newestW R q).1.1, .slice a m c]) ∧ Below w.heap.size w w' ∧ IsB w' a m c (newestW R q).1.2) := Lib.hid (fun w h => rnewest_any B rd rl rc R q (q : Int) w h rfl hq)
  have hz0 : (newestW R q).1.1 = 0 → (newestW R q).1.2 = [] := fun h0 => by
    unfold newestW at h0 ⊢
    split at h0
    · rename_i h1
      rw [if_pos h1]
      exact congrArg Prod.snd (place_zero R (q + 6) h0)
    · rename_i h1
      rw [if_neg h1]
      split at h0
      · rename_i h2
        rw [if_pos h2]
        exact congrArg Prod.snd (place_zero R q h0)
      · rename_i h2
        rw [if_neg h2]
  obtain ⟨wh, hwh⟩ : ∃ wh, wh = rwhich R q := ⟨_, rfl⟩
  rw [← hwh] at HNEW
  generalize newestW R q = x at HNEW hsh hlt hz0 ⊢
  obtain ⟨⟨xn, xb⟩, to⟩ := x
  dsimp only at HNEW hsh hlt hz0 ⊢
  have HR := Lib.hid h
  clear hpl hr hp hwh h
  by_cases h0 : xn = 0
  · have HZ := Lib.hid (hz0 h0)
    subst h0
    clear hz0
    go_enter Tryz.func21, Tryz.ntmps21
    go_wp2_with fail
    refine (rthere_any B rd rl rc R _ w HR.out).mono ?_; rintro e w' ⟨rfl, rfl⟩; rw [d2]
    go_wp2_with fail
    refine (HNEW.out w HR.out).mono ?_; rintro e w1 ⟨xa, xm, xc, rfl, hb1, hi1⟩
    go_wp2_with fail
    go_ret3
    rw [HZ.out]
    exact ⟨none, 0, 0, rfl, hb1, IsB.nil _⟩
  · have d3 : ((xn : Int) == 0) = false := by rw [beq_eq_false_iff_ne]; omega
    clear hz0 h0
    go_enter Tryz.func21, Tryz.ntmps21
    go_wp2_with fail
    refine (rthere_any B rd rl rc R _ w HR.out).mono ?_; rintro e w' ⟨rfl, rfl⟩; rw [d2]
    go_wp2_with fail
    refine (HNEW.out w HR.out).mono ?_; rintro e w1 ⟨xa, xm, xc, rfl, hb1, hi1⟩
    obtain rfl := hi1.1
    have hat := hi1.at
    have hl1 : Hid ((bcells xb).length = xb.length * 1) := Lib.hid (by rw [bcells_length]; omega)
    have HB1 := Lib.hid hb1
    have HS1 : Hid (w.heap.size ≤ w1.heap.size) := Lib.hid hb1.size
    clear hi1 hb1
    go_wp2_with (first
      | (at_builtin; refine wpList_append_any rowU8 rfl (.const (.slice none 0 0)) (.tmp 24) rfl w.heap.size (.slice none 0 0) 0 [] rfl (World.ownsRow_nil _ _ _ _) xa xb.length xc (bcells xb) rfl hl1.out hat (bcells_one xb) (by unfold maxLen; omega) (by omega) HS1.out ?_; intro b2 c2 w2 hown2 hg2 hat2; simp only [Nat.zero_add, List.nil_append] at hown2 hat2)
      | fail)
    have HB2 : Hid (Below w.heap.size w w2) := Lib.hid (HB1.out.grown hg2 HS1.out (by simp [Value.ownBlock]))
    have HI2 := Lib.hid (isB_of_owns hown2 rfl)
    clear hown2 hg2 hat2 hat hl1
    go_wp2_with fail
    go_ret3
    exact ⟨b2, _, c2, rfl, HB2.out, HI2.out⟩

end Go.Proofs.YthenakdfdpdknaaGreatDoor

/- Strings of bytes, bytes.Clone, bytes.Equal: contracts of our own; conditions: those typed. -/
namespace Go.Proofs.YthenakdfdpdknaaGreatDoor
open Go.RowKit
set_option linter.unusedVariables false

/-- Bytes as a string. -/
def strB (l : List UInt8) : ByteArray := ⟨l.toArray⟩
theorem strB_inj {a b : List UInt8} (h : strB a = strB b) : a = b := by
  unfold strB at h
  simpa using congrArg (fun s : ByteArray => s.data.toList) h
theorem strB_size (l : List UInt8) : (strB l).size = l.length := rfl
theorem strB_toList (a : List UInt8) : (strB a).toList = a := by rw [ByteArray.toList_eq]; rfl
theorem strB_beq (a b : List UInt8) : ((strB a).toList == (strB b).toList) = decide (a = b) := by
  rw [strB_toList, strB_toList, Bool.eq_iff_iff, beq_iff_eq, decide_eq_true_eq]

theorem run_str_isB {P : Program} {w : World} {src e dst : TypeId} (hs : P.underlying src = some (.slice e)) (he : P.underlying e = some (.int .u8)) (hd : P.underlying dst = some .string) {a : Option Addr} {n c : Nat} {l : List UInt8} (h : IsB w a n c l) :
    (convert src dst (.slice a n c)).run P w = .ok (.string (strB l)) w := by
  obtain ⟨rfl, _, _, ⟨rfl, _⟩ | ⟨b, off, rfl, _, hc⟩⟩ := h
  · cases a with
    | none => rw [run_convert_bytes_nil w src e hs he _ _ dst hd]; rfl
    | some x =>
      rw [run_convert_bytes_string w src dst e _ _ c hs he hd, run_bytesToString w _ _ c [] (by have := run_loadCells_list (P := P) w x [] (by simp); simpa using this)]
      rfl
  · have := run_convert_bytes_arg (P := P) w src e hs he b off l.length c (l.map fun x => (x.toNat : Int)) (by simp) (fun i hi => by rw [hc i hi]; simp [List.getD, hi]) dst hd
    rw [this]
    congr 2
    unfold strOfNums strB
    congr 2
    rw [List.map_map]
    exact (List.map_congr_left (fun x _ => by simp)).trans (List.map_id _)



end Go.Proofs.YthenakdfdpdknaaGreatDoor

/- The statements' helper lives of layer 19; no condition. -/
namespace Go.Proofs.YthenakdfdpdknaaGreatDoor
open Go.RowKit
set_option linter.unusedVariables false

theorem PutFull.fine {D D' : Dsk} {p m : Nat} {b : List UInt8} {k : Int} (h : PutFull D D' p m b) (hk : D.fine k) (hb : b.length ≤ 320) : D'.fine (k + 6) := by
  have hs : secsOf b ≤ 5 := by unfold secsOf; omega
  refine ⟨?_, ?_, ?_⟩
  · rw [h.writes]; have := hk.1; omega
  · rw [h.writes]; have := hk.2.1; omega
  · rw [h.left]; have := hk.2.2; unfold lessLeft; split <;> omega
theorem PutFull.free {D D' : Dsk} {p m : Nat} {b : List UInt8} (h : PutFull D D' p m b) (hl : D.left = -1) : D'.left = -1 := by rw [h.left, hl]; rfl
theorem free_room {D : Dsk} (hB : D.blown = false) (hl : D.left = -1) (j : Nat) : D.room j := ⟨hB, .inl (by omega)⟩
theorem newD_room (n j : Nat) : (newD n).room j := ⟨rfl, .inl (by show (-1 : Int) < 0; decide)⟩
theorem newD_fine (n : Nat) : (newD n).fine 0 := ⟨by show (0 : Int) ≤ 0; decide, by show (0 : Int) ≤ 0; decide, by show (-1 : Int) ≤ _; decide⟩
theorem IsDisk.good {w : World} {bd bl : Nat} {D : Dsk} (h : IsDisk w bd bl D) : D.good := h.secs
theorem new_disk (n : Nat) (nI : Int) (w : World) (hI : nI = (n : Int)) (h1 : 1 ≤ n) (h2 : n ≤ 1024) :
    Calls Tryz.prog 5 #[.int .i64 nI] w fun e w' => ∃ bd bl, e = .returned (.tuple #[.pointer (some ⟨bd, 0, none⟩), .int .i64 0]) ∧ Below w.heap.size w w' ∧ w.heap.size ≤ bd ∧ w.heap.size ≤ bl ∧ IsDisk w' bd bl (newD n) := by
  subst hI
  exact new_good n w h1 h2
theorem frozen1 (w : World) (x : UInt8) (e : TypeId) (fz : Nat × Nat) : IsB (w.alloc (.cells #[.int .u8 x.toNat] e fz)) (some ⟨w.heap.size, 0, none⟩) 1 1 [x] := IsB.fresh w [x] _ e fz rfl 1 1 rfl rfl (by simp [maxLen])

theorem lv_1 : ∃ D1, ((newD 24).put 0 1 [97]) = (0, D1) ∧ PutFull (newD 24) D1 0 1 [97] := by
  have := put_full (D := newD 24) (newD_good 24) 0 1 [97] (by rw [newD_len]; decide) (by decide) (by decide) (by rw [newD_newest]; decide) (newD_room _ _)
  exact ⟨_, Prod.ext this.1 rfl, this.2⟩

set_option maxRecDepth 100000 in
set_option maxHeartbeats 4000000 in
theorem lives_any (w : World) :
    Calls Tryz.prog 4 #[] w fun e w' => e = .returned (.bool true) ∧ Below w.heap.size w w' := by
  have kc := fun (w : World) (C : Array Value) (n c : Nat) => Lib.run_convert_bytes_const (P := Tryz.prog) w 24 5 C n c Tryz.underlying24 Tryz.underlying5
  obtain ⟨D1, hp1, hf1⟩ := lv_1
  have HF := Lib.hid hf1
  have hlen1 : D1.secs.length = 24 := hf1.len.trans (newD_len 24)
  have hfine1 := hf1.fine (newD_fine 24) (by decide)
  have hg0 : D1.get 0 = (1, [97], 0) := by
    rw [show (0 : Int) = ((0 : Nat) : Int) from rfl, get_is 0 (by omega), hf1.new]; rfl
  have hg12 : D1.get 12 = (0, [], 0) := by
    rw [show (12 : Int) = ((12 : Nat) : Int) from rfl, get_is 12 (by omega), newestW_same (D := newD 24) (D' := D1) 12 (fun i hi => hf1.far _ (by omega)), newD_newest]
  have ho : D1.put 0 1 [98] = (10, D1) := put_old 0 1 [98] (by omega) (by decide) (by rw [hf1.new]; decide)
  have ha : D1.put 13 1 [] = (1, D1) := by unfold Dsk.put; rw [if_pos (by omega)]
  have HP1 := Lib.hid hp1
  have HG0 := Lib.hid hg0
  have HG12 := Lib.hid hg12
  have HO := Lib.hid ho
  have HA := Lib.hid ha
  have HFI := Lib.hid hfine1
  clear hp1 hf1 hlen1 hg0 hg12 ho ha hfine1
  go_enter Tryz.func4, Tryz.ntmps4
  go_wp2_with fail
  refine (new_disk 24 24 w rfl (by decide) (by decide)).mono ?_; rintro e w1 ⟨bd, bl, rfl, hb1, g1, g2, hd1⟩
  have hlt1 := hd1.lt
  go_wp2_with fail
  refine (put_any bd bl (newD 24) 0 1 _ 1 1 [97] 0 _ (hd1.touch (Touch.of_below (S := fun _ => False) ((Below.refl _ _).alloc (Nat.le_refl _) _)) id id) (frozen1 w1 97 _ _) (fun x off h _ => by cases h; omega) (newD_fine 24) (by decide) (by decide)).mono ?_; rintro e w2 ⟨rfl, ht2, hd2⟩
  rw [HP1.out] at hd2 ⊢
  have hb2 : Below w.heap.size w w2 := (hb1.alloc hb1.size _).trans (ht2.below (by simp; exact Nat.le_trans hb1.size (Nat.le_succ _)) (fun k hk e => by omega))
  have hd2' : IsDisk w2 bd bl D1 := hd2
  have hlt2 := hd2'.lt
  clear hb1 hd1 ht2 hd2 hlt1
  go_wp2_with fail
  refine (get_any bd bl D1 0 w2 hd2').mono ?_; rintro e w3 ⟨a3, rfl, hb3, hi3⟩
  rw [HG0.out] at hi3 ⊢
  have hd3 := hd2'.touch (Touch.of_below (S := fun _ => False) hb3) id id
  have hb3' := hb2.trans (hb3.mono hb2.size)
  clear hb2 hd2' hb3
  go_wp2_with fail
  refine (get_any bd bl D1 12 w3 hd3).mono ?_; rintro e w4 ⟨a4, rfl, hb4, hi4⟩
  rw [HG12.out] at hi4 ⊢
  have hd4 := hd3.touch (Touch.of_below (S := fun _ => False) hb4) id id
  have hb4' := hb3'.trans (hb4.mono hb3'.size)
  have hi3' : IsB w4 a3 1 1 [97] := hi3.below hb4
  have c1 : (convert 24 9 (.slice a3 1 1)).run Tryz.prog w4 = .ok (.string (strB [97])) w4 := run_str_isB (P := Tryz.prog) Tryz.underlying24 Tryz.underlying5 Tryz.underlying9 hi3'
  have e97 : (strB [97]).toList = [97] := strB_toList _
  have hlt4 := hd4.lt
  clear hb3' hd3 hb4 hi3 hi3' hi4
  go_wp2_with fail
  refine (put_any bd bl D1 0 1 _ 1 1 [98] _ _ (hd4.touch (Touch.of_below (S := fun _ => False) ((Below.refl _ _).alloc (Nat.le_refl _) _)) id id) (frozen1 w4 98 _ _) (fun x off h _ => by cases h; omega) HFI.out (by decide) (by decide)).mono ?_; rintro e w5 ⟨rfl, ht5, hd5⟩
  rw [HO.out] at hd5 ⊢
  have hb5 : Below w.heap.size w w5 := (hb4'.alloc hb4'.size _).trans (ht5.below (by simp; exact Nat.le_trans hb4'.size (Nat.le_succ _)) (fun k hk e => by omega))
  have hd5' : IsDisk w5 bd bl D1 := hd5
  clear hb4' hd4 ht5 hd5 c1
  go_wp2_with fail
  refine (put_any bd bl D1 13 1 none 0 0 [] _ w5 hd5' (IsB.nil _) (fun x off h _ => by cases h) HFI.out (by decide) (by decide)).mono ?_; rintro e w6 ⟨rfl, ht6, hd6⟩
  rw [HA.out] at hd6 ⊢
  have hb6 : Below w.heap.size w w6 := hb5.trans (ht6.below hb5.size (fun k hk e => by omega))
  clear hb5 hd5' ht6 hd6
  go_wp2_with (first
    | (go_at_call 7; refine (room_any _).mono ?_; rintro e w' ⟨rfl, rfl⟩)
    | (go_at_call 16; refine (put_nil 0 1 none 0 0 _).mono ?_; rintro e w' ⟨rfl, rfl⟩)
    | fail)
  go_ret
  exact ⟨rfl, hb6⟩

end Go.Proofs.YthenakdfdpdknaaGreatDoor

/- Acts on slots, in memory; both disks in a play on slots; conditions: those typed. -/
namespace Go.Proofs.YthenakdfdpdknaaGreatDoor
open Go.RowKit
set_option linter.unusedVariables false
set_option linter.unusedSimpArgs false
set_option maxRecDepth 100000

/-- An act: its kind, where, its number, its bytes, a fuse. -/
structure ActS where
  kind : UInt8
  at_ : Int
  num : Nat
  b : List UInt8
  n : Int
instance : Inhabited ActS := ⟨⟨0, 0, 0, [], 0⟩⟩
/-- An act's cells. -/
def ActS.cells (x : ActS) (ai : Option Addr) (ni ci : Nat) : List Value := [.int .u8 x.kind.toNat, .int .i64 x.at_, .int .u32 x.num, .slice ai ni ci, .int .i64 x.n]
def ActS.ok (x : ActS) : Prop := (-9223372036854775808 ≤ x.at_ ∧ x.at_ ≤ 9223372036854775807) ∧ x.num < 4294967296 ∧ (-9223372036854775808 ≤ x.n ∧ x.n ≤ 9223372036854775807)
/-- A slice of acts that reads as a list. -/
def IsActS (w : World) (a : Option Addr) (n c : Nat) (L : List ActS) : Prop :=
  n = L.length ∧ L.length ≤ c ∧ c ≤ maxLen ∧ (L = [] ∨ ∃ b off, a = some ⟨b, off, none⟩ ∧ b < w.heap.size ∧ ∀ i (h : i < L.length), L[i].ok ∧ ∃ ai ni ci, w.rangeAt b (off + i * 5) (L[i].cells ai ni ci) ∧ IsB w ai ni ci L[i].b)
theorem range_below {w w' : World} {b o : Nat} {cs : List Value} (h : w.rangeAt b o cs) (hb : Below w.heap.size w w') (hlt : b < w.heap.size) : w'.rangeAt b o cs := fun j v hj => (hb.cell (p := ⟨b, _, none⟩) hlt).trans (h j v hj)
theorem IsActS.below {w w' : World} {a : Option Addr} {n c : Nat} {L : List ActS} (h : IsActS w a n c L) (hb : Below w.heap.size w w') : IsActS w' a n c L := by
  obtain ⟨h1, h2, h3, h4 | ⟨b, off, rfl, hlt, hc⟩⟩ := h
  · exact ⟨h1, h2, h3, .inl h4⟩
  · refine ⟨h1, h2, h3, .inr ⟨b, off, rfl, Nat.lt_of_lt_of_le hlt hb.size, fun i hi => ?_⟩⟩
    obtain ⟨c3, ai, ni, ci, c4, hB⟩ := hc i hi
    exact ⟨c3, ai, ni, ci, range_below c4 hb hlt, hB.below hb⟩

def ssum : List ActS → Nat
  | [] => 0
  | x :: L => 4 + x.b.length / 40 + ssum L
theorem ssum_snoc (L : List ActS) (x : ActS) : ssum (L ++ [x]) = ssum L + (4 + x.b.length / 40) := by
  induction L with
  | nil => simp [ssum]
  | cons y L ih => simp only [List.cons_append, ssum, ih]; omega
theorem ssum_take (L : List ActS) (k : Nat) (hk : k < L.length) : ssum (L.take (k + 1)) = ssum (L.take k) + (4 + L[k].b.length / 40) := by
  rw [List.take_succ_eq_append_getElem hk, ssum_snoc]
theorem ssum_le (L : List ActS) (h : ∀ x ∈ L, x.b.length ≤ 1048576) : ssum L ≤ L.length * 40000 := by
  induction L with
  | nil => simp [ssum]
  | cons y L ih =>
    have h1 := h y List.mem_cons_self
    have h2 := ih fun x hx => h x (List.mem_cons_of_mem _ hx)
    simp only [ssum, List.length_cons]
    omega
theorem ssum_len (L : List ActS) : 4 * L.length ≤ ssum L := by
  induction L with
  | nil => simp [ssum]
  | cons y L ih => simp only [ssum, List.length_cons]; omega
theorem ssum_mem (L : List ActS) (x : ActS) (hx : x ∈ L) : x.b.length / 40 ≤ ssum L := by
  induction L with
  | nil => cases hx
  | cons y L ih =>
    simp only [ssum]
    rcases List.mem_cons.1 hx with rfl | hx
    · omega
    · have := ih hx; omega

/-! ### both disks, a record put -/
theorem Same.secAt {D R : Dsk} (h : Same D R) (i : Nat) : secAt R i = secAt D i := by unfold Go.Proofs.YthenakdfdpdknaaGreatDoor.secAt; rw [h.1]
theorem Same.newest {D R : Dsk} (h : Same D R) (p : Nat) : newestW R p = newestW D p := newestW_same p fun i _ => h.secAt (p + i)
theorem Same.wrs {D R : Dsk} (h : Same D R) (to : Nat) (b : List UInt8) (j : Nat) : (wrs R to b j).1 = (wrs D to b j).1 ∧ Same (wrs D to b j).2 (wrs R to b j).2 := by
  induction j with
  | zero => exact ⟨rfl, h⟩
  | succ j ih =>
    have e1 : Go.Proofs.YthenakdfdpdknaaGreatDoor.wrs R to b (j + 1) = if (Go.Proofs.YthenakdfdpdknaaGreatDoor.wrs R to b j).1 ≠ 0 then Go.Proofs.YthenakdfdpdknaaGreatDoor.wrs R to b j else (Go.Proofs.YthenakdfdpdknaaGreatDoor.wrs R to b j).2.write ((to + j : Nat) : Int) (chunk b j) := rfl
    have e2 : Go.Proofs.YthenakdfdpdknaaGreatDoor.wrs D to b (j + 1) = if (Go.Proofs.YthenakdfdpdknaaGreatDoor.wrs D to b j).1 ≠ 0 then Go.Proofs.YthenakdfdpdknaaGreatDoor.wrs D to b j else (Go.Proofs.YthenakdfdpdknaaGreatDoor.wrs D to b j).2.write ((to + j : Nat) : Int) (chunk b j) := rfl
    rw [e1, e2, ih.1]
    split
    · exact ih
    · exact ih.2.write _ _
theorem Same.put {D R : Dsk} (h : Same D R) (p : Int) (num : Nat) (b : List UInt8) : (R.put p num b).1 = (D.put p num b).1 ∧ Same (D.put p num b).2 (R.put p num b).2 := by
  have hw := h.wrs (newestW D p.toNat).2 b (secsOf b)
  have hw2 := hw.2.write ((newestW D p.toNat).2 + 5 : Nat) (mkB num b)
  unfold Dsk.put
  rw [h.newest, h.1, hw.1, hw2.1]
  split
  · exact ⟨rfl, h⟩
  · split
    · exact ⟨rfl, h⟩
    · split
      · exact ⟨rfl, h⟩
      · split
        · exact ⟨rfl, hw.2⟩
        · split
          · exact ⟨rfl, hw2.2⟩
          · exact ⟨rfl, hw2.2⟩
theorem Same.get {D R : Dsk} (h : Same D R) (p : Int) : R.get p = D.get p := by
  unfold Dsk.get
  rw [h.newest, h.1]
theorem Dsk.fine.put {D : Dsk} {k : Int} (h : D.fine k) (p : Int) (num : Nat) (b : List UInt8) : (D.put p num b).2.fine (k + 7) := by
  unfold Dsk.put
  split
  · exact h.mono (by omega)
  · split
    · exact h.mono (by omega)
    · split
      · exact h.mono (by omega)
      · have hs : secsOf b ≤ 6 := by unfold secsOf; omega
        have h1 := wrs_fine h (newestW D p.toNat).2 b (secsOf b)
        split
        · exact h1.mono (by omega)
        · have h2 := h1.write ((newestW D p.toNat).2 + 5 : Nat) (mkB num b)
          split
          · exact h2.mono (by omega)
          · exact h2.mono (by omega)
theorem Same.fine {D R : Dsk} (h : Same D R) {k : Int} (hf : D.fine k) : R.fine k := ⟨by rw [h.2.2.1]; exact hf.1, by rw [h.2.2.1]; exact hf.2.1, by have := hf.2.2; rcases h.2.2.2 with e | e <;> omega⟩
theorem Dsk.fine.left {D : Dsk} {k : Int} (h : D.fine k) : D.left ≤ 9223372036854775807 := by have := h.2.2; omega

/-! ### what a slot answers, told to the book -/
theorem hok_own {w : World} {B n c : Nat} {a : Option Addr} {l : List UInt8} (ho : w.ownsRow B 5 1 (.slice a n c) n (bcells l)) : HOk w B ⟨a, n, n⟩ := by
  rcases ho.2 with ⟨hv, h0⟩ | ⟨g, cap, cur, hv, hB, hg, h1, h2, h3, h4⟩
  · cases hv
    exact ⟨[], .inl ⟨rfl, h0, h0, rfl⟩, fun g e => by cases e⟩
  · cases hv
    refine ⟨cur.toList, .inr ⟨g, rfl, by simpa using hg, Nat.le_refl _, by simp; omega, Nat.le_trans h1 h2⟩, fun g' e => by cases e; exact hB⟩
theorem new_own {w : World} {B n c : Nat} {a : Option Addr} {l : List UInt8} (ho : w.ownsRow B 5 1 (.slice a n c) n (bcells l)) {g : Nat} (hg : a = some ⟨g, 0, none⟩) : B ≤ g := by
  rcases ho.2 with ⟨hv, h0⟩ | ⟨g', cap, cur, hv, hB, _⟩
  · cases hv; cases hg
  · cases hv; cases hg; exact hB

end Go.Proofs.YthenakdfdpdknaaGreatDoor
