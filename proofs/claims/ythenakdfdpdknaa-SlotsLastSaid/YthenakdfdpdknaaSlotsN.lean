/- The package slots: the newest of both places; conditions: those typed. -/
import Derived.Test.YthenakdfdpdknaaSlotsR
import Derived.Test.YthenakdfdpdknaaBig
namespace Go.Proofs.Ythenakdfdpdknaa
open Go.RowKit
set_option linter.unusedVariables false

/-- The newest of both, and where the other place begins. -/
def newestW (D : Dsk) (p : Nat) : (Nat × List UInt8) × Nat :=
  if (place D p).1 < (place D (p + 6)).1 then (place D (p + 6), p) else if 0 < (place D p).1 then (place D p, p + 6) else ((0, []), p)

/-- The variable l of newest, when j of its two are read. -/
structure NewSt (w : World) (b6 : Nat) (x0 x1 : Nat × List UInt8) (a0 : Option Addr) (c0 : Nat) (a1 : Option Addr) (c1 : Nat) : Prop where
  row : w.heap[b6]? = some (.cells #[.int .u32 x0.1, .slice a0 x0.2.length c0, .int .u32 x1.1, .slice a1 x1.2.length c1] 58 (0, 0))
  i0 : IsB w a0 x0.2.length c0 x0.2
  i1 : IsB w a1 x1.2.length c1 x1.2
theorem NewSt.below {w w' : World} {b6 : Nat} {x0 x1 : Nat × List UInt8} {a0 : Option Addr} {c0 : Nat} {a1 : Option Addr} {c1 : Nat} (h : NewSt w b6 x0 x1 a0 c0 a1 c1) (hb : Below w.heap.size w w') : NewSt w' b6 x0 x1 a0 c0 a1 c1 :=
  ⟨below_heap hb h.row (lt_of_heap h.row), h.i0.below hb, h.i1.below hb⟩
theorem place_lt (D : Dsk) (p : Nat) (h : (secAt D (p + 5)).length = 64) : (place D p).1 < 4294967296 := by
  have hnum : numAt D p < 4294967296 := by
    have := numOf_lt ((secAt D (p + 5)).take 4)
    rw [List.length_take, h] at this
    exact this
  unfold place
  split
  · decide
  · split
    · exact hnum
    · decide

set_option linter.unusedSimpArgs false
theorem IsB.off_block {w : World} {a : Option Addr} {n c k : Nat} {l : List UInt8} {C : Array Value} {ty : TypeId} (h : IsB w a n c l) (hC : w.heap[k]? = some (.cells C ty (0, 0))) (hx : ∀ (i : Nat) (v : Value), C[i]? = some v → ¬ ∃ x : Int, v = Value.int .u8 x) : ∀ b off, a = some ⟨b, off, none⟩ → l ≠ [] → ¬ (b = k) := by
  intro b off ha hl hb
  subst hb
  rcases h.2.2.2 with ⟨h0, _⟩ | ⟨b', off', h0, hlt, hc⟩
  · exact hl h0
  · rw [ha] at h0
    cases h0
    have := hc 0 (List.length_pos_iff.2 hl)
    rw [cell_of_block hC] at this
    exact hx _ _ this ⟨((l[0]'(List.length_pos_iff.2 hl)).toNat : Int), rfl⟩

theorem no_bytes (n0 n1 : Int) (a0 a1 : Option Addr) (l0 c0 l1 c1 : Nat) : ∀ (i : Nat) (v : Value), (#[Value.int .u32 n0, .slice a0 l0 c0, .int .u32 n1, .slice a1 l1 c1] : Array Value)[i]? = some v → ¬ ∃ x : Int, v = Value.int .u8 x := by
  rintro i v h ⟨x, rfl⟩
  match i, h with
  | 0, h => simp at h
  | 1, h => simp at h
  | 2, h => simp at h
  | 3, h => simp at h
  | i + 4, h => simp at h
theorem NewSt.put0 {w w' : World} {b6 : Nat} {x0 x1 y : Nat × List UInt8} {a0 : Option Addr} {c0 : Nat} {a1 : Option Addr} {c1 : Nat} {a : Option Addr} {c : Nat} (h : NewSt w b6 x0 x1 a0 c0 a1 c1) (hi : IsB w a y.2.length c y.2) (ht : Touch (fun k => k = b6) w w')
    (hg : w'.heap[b6]? = some (.cells ((#[Value.int .u32 x0.1, .slice a0 x0.2.length c0, .int .u32 x1.1, .slice a1 x1.2.length c1] : Array Value).toList.take 0 ++ [Value.int .u32 y.1, .slice a y.2.length c] ++ (#[Value.int .u32 x0.1, .slice a0 x0.2.length c0, .int .u32 x1.1, .slice a1 x1.2.length c1] : Array Value).toList.drop (0 + [Value.int .u32 y.1, .slice a y.2.length c].length)).toArray 58 (0, 0))) : NewSt w' b6 y x1 a c a1 c1 :=
  ⟨hg, hi.touch ht (hi.off_block h.row (no_bytes _ _ _ _ _ _ _ _)), h.i1.touch ht (h.i1.off_block h.row (no_bytes _ _ _ _ _ _ _ _))⟩
theorem NewSt.put1 {w w' : World} {b6 : Nat} {x0 x1 y : Nat × List UInt8} {a0 : Option Addr} {c0 : Nat} {a1 : Option Addr} {c1 : Nat} {a : Option Addr} {c : Nat} (h : NewSt w b6 x0 x1 a0 c0 a1 c1) (hi : IsB w a y.2.length c y.2) (ht : Touch (fun k => k = b6) w w')
    (hg : w'.heap[b6]? = some (.cells ((#[Value.int .u32 x0.1, .slice a0 x0.2.length c0, .int .u32 x1.1, .slice a1 x1.2.length c1] : Array Value).toList.take 2 ++ [Value.int .u32 y.1, .slice a y.2.length c] ++ (#[Value.int .u32 x0.1, .slice a0 x0.2.length c0, .int .u32 x1.1, .slice a1 x1.2.length c1] : Array Value).toList.drop (2 + [Value.int .u32 y.1, .slice a y.2.length c].length)).toArray 58 (0, 0))) : NewSt w' b6 x0 y a0 c0 a c :=
  ⟨hg, h.i0.touch ht (h.i0.off_block h.row (no_bytes _ _ _ _ _ _ _ _)), hi.touch ht (hi.off_block h.row (no_bytes _ _ _ _ _ _ _ _))⟩

theorem zero_bytes : ∀ (i : Nat) (v : Value), (#[Value.int .u32 0, .slice none 0 0] : Array Value)[i]? = some v → ¬ ∃ x : Int, v = Value.int .u8 x := by
  rintro i v h ⟨x, rfl⟩
  match i, h with
  | 0, h => simp at h
  | 1, h => simp at h
  | i + 2, h => simp at h

set_option maxRecDepth 100000 in
set_option maxHeartbeats 4000000 in
theorem newest_any (bd bl : Nat) (D : Dsk) (p : Nat) (pI : Int) (w : World) (h : IsDisk w bd bl D) (hI : pI = (p : Int)) (hp : p + 12 ≤ D.secs.length) :
    Calls Try.prog 18 #[.pointer (some ⟨bd, 0, none⟩), .int .i64 pI] w fun e w' => ∃ a c, e = .returned (.tuple #[.agg #[.int .u32 (newestW D p).1.1, .slice a (newestW D p).1.2.length c], .int .i64 (newestW D p).2]) ∧ Below w.heap.size w w' ∧ IsB w' a (newestW D p).1.2.length c (newestW D p).1.2 := by
  subst hI
  have hmost := h.most
  have hb0 : Below w.heap.size w ((w.alloc (.cells #[.int .u32 0, .slice none 0 0] 52)).alloc (.cells #[.int .u32 0, .slice none 0 0, .int .u32 0, .slice none 0 0] 58)) := ((Below.refl _ _).alloc (Nat.le_refl _) _).alloc (by simp) _
  have hcz : ((w.alloc (.cells #[.int .u32 0, .slice none 0 0] 52)).alloc (.cells #[.int .u32 0, .slice none 0 0, .int .u32 0, .slice none 0 0] 58)).heap[w.heap.size]? = some (.cells #[.int .u32 0, .slice none 0 0] 52 (0, 0)) := below_heap (B := w.heap.size + 1) ((Below.refl _ _).alloc (by simp) _) (heap_new w _) (by omega)
  have hl6 : NewSt ((w.alloc (.cells #[.int .u32 0, .slice none 0 0] 52)).alloc (.cells #[.int .u32 0, .slice none 0 0, .int .u32 0, .slice none 0 0] 58)) (w.heap.size + 1) (0, []) (0, []) none 0 none 0 := ⟨by
    have := heap_new (w.alloc (.cells #[.int .u32 0, .slice none 0 0] 52)) (.cells #[.int .u32 0, .slice none 0 0, .int .u32 0, .slice none 0 0] 58 (0, 0))
    rw [show (w.alloc (.cells #[.int .u32 0, .slice none 0 0] 52)).heap.size = w.heap.size + 1 by simp] at this
    exact this, IsB.nil _, IsB.nil _⟩
  have h0 := h.touch (Touch.of_below (S := fun _ => False) hb0) id id
  go_enter Try.func18, Try.ntmps18
  go_wp2_with fail
  generalize (w.alloc (.cells #[.int .u32 0, .slice none 0 0] 52)).alloc (.cells #[.int .u32 0, .slice none 0 0, .int .u32 0, .slice none 0 0] 58) = w0 at hb0 hcz hl6 h0 ⊢
  obtain ⟨N, hN⟩ : ∃ N, N = 2 := ⟨_, rfl⟩
  have HN := Lib.hid hN
  clear hN h
  obtain ⟨bz, hbz⟩ : ∃ bz, bz = w.heap.size := ⟨_, rfl⟩
  obtain ⟨b6, hb6⟩ : ∃ b6, b6 = w.heap.size + 1 := ⟨_, rfl⟩
  rw [← hb6] at hl6 ⊢
  rw [← hbz] at hcz ⊢
  have HZ : Hid (w.heap.size ≤ bz ∧ w.heap.size ≤ b6 ∧ bz ≠ b6) := Lib.hid (by omega)
  clear hbz hb6
  have HP : Hid (p + 12 ≤ D.secs.length ∧ D.secs.length ≤ 1024) := Lib.hid ⟨hp, hmost⟩
  go_loopw [8] (fun i wr => ∃ j : Nat, ∃ a0 c0 a1 c1, j ≤ 2 ∧ i = .int .i64 j ∧ Hid (IsDisk wr bd bl D) ∧ Hid (NewSt wr b6 (if 1 ≤ j then place D p else (0, [])) (if 2 ≤ j then place D (p + 6) else (0, [])) a0 c0 a1 c1) ∧ Hid (Below w.heap.size w wr) ∧ Hid (wr.heap[bz]? = some (.cells #[.int .u32 0, .slice none 0 0] 52 (0, 0)))) (fun i _ => N - (intOf i).toNat)
  case atStart => exact ⟨0, none, 0, none, 0, by omega, rfl, Lib.hid h0, Lib.hid hl6, Lib.hid hb0, Lib.hid hcz⟩
  case round =>
    obtain ⟨j, a0, c0, a1, c1, hj, rfl, hd, hst, hbw, hcz'⟩ := hrel
    by_cases hlt : j < 2
    · rcases (show j = 0 ∨ j = 1 by omega) with rfl | rfl
      · have hdd := hd.out
        have hss := hst.out
        have hww := hbw.out
        have hzz := hcz'.out
        simp only [Nat.reduceLeDiff, if_true, if_false, Nat.le_refl] at hss
        clear hst
        go_wp2_with fail
        refine (sread_any bd bl D (p) _ wr hdd (by omega) (by have := HP.out; omega)).mono ?_; rintro e w2 ⟨a2, c2, rfl, hb2, hi2⟩
        have hss2 := hss.below hb2
        have hd2 := hdd.touch (Touch.of_below (S := fun _ => False) hb2) id id
        have hz2 := below_heap hb2 hzz (lt_of_heap hzz)
        have hw2 := hww.trans (hb2.mono hww.size)
        clear hss hdd hzz hww hb2
        go_wp2_with (first
          | (refine wpList_store_part rfl 52 (.tmp 18) (.tmp 17) rfl b6 0 [.int .u32 (place D (p)).1, .slice a2 (place D (p)).2.length c2] _ _ hss2.row rfl rfl (by simp) info_what (one_what _ _ _ _) ?_; intro w3 ht3 hg3)
          | fail)
        have hst3 := hss2.put0 hi2 ht3 hg3
        have hd3 := hd2.touch ht3 (fun e => by have h1 := hd2.cells; have h2 := hss2.row; rw [e, h2] at h1; simp at h1) (fun e => by have h1 := hd2.row; have h2 := hss2.row; rw [e, h2] at h1; have := (Obj.cells.inj (Option.some.inj h1)).2.1; revert this; decide)
        have hz3 := ht3.heap hz2 HZ.out.2.2
        have hw3 := hw2.trans (ht3.below hw2.size (fun k hk e => by have := HZ.out; omega))
        go_roundw
        case rel => exact ⟨1, a2, c2, a1, c1, by omega, rfl, Lib.hid hd3, Lib.hid (by simpa using hst3), Lib.hid hw3, Lib.hid hz3⟩
        case measure => have := HN.out; simp [intOf]; omega
      · have hdd := hd.out
        have hss := hst.out
        have hww := hbw.out
        have hzz := hcz'.out
        simp only [Nat.reduceLeDiff, if_true, if_false, Nat.le_refl] at hss
        clear hst
        go_wp2_with fail
        refine (sread_any bd bl D (p + 6) _ wr hdd (by omega) (by have := HP.out; omega)).mono ?_; rintro e w2 ⟨a2, c2, rfl, hb2, hi2⟩
        have hss2 := hss.below hb2
        have hd2 := hdd.touch (Touch.of_below (S := fun _ => False) hb2) id id
        have hz2 := below_heap hb2 hzz (lt_of_heap hzz)
        have hw2 := hww.trans (hb2.mono hww.size)
        clear hss hdd hzz hww hb2
        go_wp2_with (first
          | (refine wpList_store_part rfl 52 (.tmp 18) (.tmp 17) rfl b6 2 [.int .u32 (place D (p + 6)).1, .slice a2 (place D (p + 6)).2.length c2] _ _ hss2.row rfl rfl (by simp) info_what (one_what _ _ _ _) ?_; intro w3 ht3 hg3)
          | fail)
        have hst3 := hss2.put1 hi2 ht3 hg3
        have hd3 := hd2.touch ht3 (fun e => by have h1 := hd2.cells; have h2 := hss2.row; rw [e, h2] at h1; simp at h1) (fun e => by have h1 := hd2.row; have h2 := hss2.row; rw [e, h2] at h1; have := (Obj.cells.inj (Option.some.inj h1)).2.1; revert this; decide)
        have hz3 := ht3.heap hz2 HZ.out.2.2
        have hw3 := hw2.trans (ht3.below hw2.size (fun k hk e => by have := HZ.out; omega))
        go_roundw
        case rel => exact ⟨2, a0, c0, a2, c2, by omega, rfl, Lib.hid hd3, Lib.hid (by simpa using hst3), Lib.hid hw3, Lib.hid hz3⟩
        case measure => have := HN.out; simp [intOf]; omega
    · have hj2 : j = 2 := by omega
      subst hj2
      have hst' : NewSt wr b6 (place D p) (place D (p + 6)) a0 c0 a1 c1 := hst.out
      have hww := hbw.out
      have hzz := hcz'.out
      have hob0 := hst'.i0.off_block hzz zero_bytes
      have hob1 := hst'.i1.off_block hzz zero_bytes
      have r0 : Hid (wr.rangeAt b6 0 [.int .u32 (place D p).1, .slice a0 (place D p).2.length c0]) := Lib.hid (rangeAt_mid hst'.row (by simp))
      have r2 : Hid (wr.rangeAt b6 2 [.int .u32 (place D (p + 6)).1, .slice a1 (place D (p + 6)).2.length c1]) := Lib.hid (rangeAt_mid hst'.row (by simp))
      have g0 : wr.cell? ⟨b6, 0, none⟩ = some (.int .u32 (place D p).1) := by rw [cell_of_block hst'.row]; rfl
      have g2 : wr.cell? ⟨b6, 2, none⟩ = some (.int .u32 (place D (p + 6)).1) := by rw [cell_of_block hst'.row]; rfl
      by_cases hlt : (place D p).1 < (place D (p + 6)).1
      · have HNW : Hid (newestW D p = (place D (p + 6), p)) := Lib.hid (if_pos hlt)
        have d1 : decide ((place D p).1 < (place D (p + 6)).1) = true := decide_eq_true hlt
        clear hlt
        go_wp2_with (first
          | (refine wpList_load_mid rfl 52 (.tmp 28) rfl b6 2 rfl [.int .u32 (place D (p + 6)).1, .slice a1 (place D (p + 6)).2.length c1] _ r2.out Try.underlying52 rfl info_what ?_)
          | (refine wpList_store_whole rfl 52 (.tmp 4) (.tmp 29) rfl bz [.int .u32 (place D (p + 6)).1, .slice a1 (place D (p + 6)).2.length c1] _ _ hzz rfl rfl rfl info_what (one_what _ _ _ _) ?_; intro w4 ht4 hg4)
          | fail)
        refine bodyPost_ret (results_cell_tmp rfl _ _ bz 0 rfl [.int .u32 (place D (p + 6)).1, .slice a1 (place D (p + 6)).2.length c1] _ (rangeAt_row hg4) Try.underlying52 rfl info_what) rfl ?_
        rw [HNW.out]
        have hbz4 := hww.trans (ht4.below hww.size (fun k hk e => by have := HZ.out; omega))
        exact ⟨a1, c1, rfl, hbz4, hst'.i1.touch ht4 hob1⟩
      have d1 : decide ((place D p).1 < (place D (p + 6)).1) = false := decide_eq_false hlt
      by_cases hp0 : 0 < (place D p).1
      · have HNW : Hid (newestW D p = (place D p, p + 6)) := Lib.hid (by unfold newestW; rw [if_neg hlt, if_pos hp0])
        have d2 : decide (0 < (place D p).1) = true := decide_eq_true hp0
        clear hlt hp0
        have hP1 := HP.out.1
        have hP2 := HP.out.2
        go_wp2_with (first
          | (refine wpList_load_mid rfl 52 (.tmp 36) rfl b6 0 rfl [.int .u32 (place D p).1, .slice a0 (place D p).2.length c0] _ r0.out Try.underlying52 rfl info_what ?_)
          | (refine wpList_store_whole rfl 52 (.tmp 4) (.tmp 37) rfl bz [.int .u32 (place D p).1, .slice a0 (place D p).2.length c0] _ _ hzz rfl rfl rfl info_what (one_what _ _ _ _) ?_; intro w4 ht4 hg4)
          | fail)
        refine bodyPost_ret (results_cell_tmp rfl _ _ bz 0 rfl [.int .u32 (place D p).1, .slice a0 (place D p).2.length c0] _ (rangeAt_row hg4) Try.underlying52 rfl info_what) rfl ?_
        rw [HNW.out]
        have hbz4 := hww.trans (ht4.below hww.size (fun k hk e => by have := HZ.out; omega))
        exact ⟨a0, c0, by simp, hbz4, hst'.i0.touch ht4 hob0⟩
      · have HNW : Hid (newestW D p = ((0, []), p)) := Lib.hid (by unfold newestW; rw [if_neg hlt, if_neg hp0])
        have d2 : decide (0 < (place D p).1) = false := decide_eq_false hp0
        clear hlt hp0
        go_wp2_with (first
          | (refine wpList_store_whole rfl 52 (.tmp 4) (.tmp 40) rfl bz [.int .u32 0, .slice none 0 0] _ _ hzz rfl rfl rfl info_what one_what0 ?_; intro w4 ht4 hg4)
          | fail)
        refine bodyPost_ret (results_cell_tmp rfl _ _ bz 0 rfl [.int .u32 0, .slice none 0 0] _ (rangeAt_row hg4) Try.underlying52 rfl info_what) rfl ?_
        rw [HNW.out]
        have hbz4 := hww.trans (ht4.below hww.size (fun k hk e => by have := HZ.out; omega))
        exact ⟨none, 0, rfl, hbz4, IsB.nil _⟩

end Go.Proofs.Ythenakdfdpdknaa
