/- The document's disk: Write; conditions: those typed. -/
import Derived.Test.YtppmpgkkegldnaaDoorRefR
import Derived.Test.YtppmpgkkegldnaaDoorBookK
namespace Go.Proofs.YtppmpgkkegldnaaDoor
open Go.RowKit
set_option linter.unusedVariables false
set_option linter.unusedSimpArgs false
set_option maxRecDepth 100000

theorem IsRef.lt {w : World} {B rd rl rc : Nat} {R : Dsk} (h : IsRef w B rd rl rc R) : rd < w.heap.size ∧ rl < w.heap.size ∧ rd ≠ rl ∧ B ≤ rl := by
  obtain ⟨gs, g1, g2, g3, g4⟩ := h.row
  refine ⟨lt_of_heap h.cells, (g2.lt rl rfl).2, fun e => ?_, (g2.lt rl rfl).1⟩
  obtain ⟨cur, hc⟩ := owns_block g2 (k := rl) rfl
  rw [← e, h.cells] at hc
  have := (Obj.cells.inj (Option.some.inj hc)).2.1
  revert this; decide
theorem IsRef.sec_lt {w : World} {B rd rl rc : Nat} {R : Dsk} (h : IsRef w B rd rl rc R) (n : Nat) (hn : n < R.secs.length) (g : Nat) (hc : w.cell? ⟨rl, n, none⟩ = some (sl64 g)) : g < w.heap.size := by
  obtain ⟨g', h1, h2⟩ := h.sec n hn
  rw [hc] at h1
  unfold sl64 at h1
  cases h1
  exact lt_of_heap h2

/-- A sector is another one. -/
theorem IsRef.setSec {w : World} {B rd rl rc : Nat} {R : Dsk} (h : IsRef w B rd rl rc R) (n : Nat) (hn : n < R.secs.length) (g : Nat) (x : List UInt8) (hx : x.length = 64) (hg : RowB w g x) (hB : B ≤ g)
    (hf : ∀ i g', i < R.secs.length → w.cell? ⟨rl, i, none⟩ = some (sl64 g') → g' ≠ g) :
    Touch (fun k => k = rl) w (w.setCell ⟨rl, n, none⟩ (sl64 g)) ∧ IsRef (w.setCell ⟨rl, n, none⟩ (sl64 g)) B rd rl rc { R with secs := R.secs.set n x } := by
  have ht : Touch (fun k => k = rl) w (w.setCell ⟨rl, n, none⟩ (sl64 g)) := (Touch.refl _ _).setCell _ _ (.inl rfl)
  obtain ⟨_, _, hne, _⟩ := h.lt
  obtain ⟨gs, g1, g2, g3, g4⟩ := h.row
  have hcell : ∀ i (hi : i < gs.length), w.cell? ⟨rl, i, none⟩ = some (sl64 gs[i]) := fun i hi => cells_of_owns g2 i _ (by rw [List.getElem?_map, List.getElem?_eq_getElem hi]; rfl)
  have hfg : ∀ i (hi : i < gs.length), gs[i] ≠ g := fun i hi => hf i _ (by omega) (hcell i hi)
  have hnr : ∀ {k : Nat} {y : List UInt8}, RowB w k y → k ≠ rl := fun hk e => by
    obtain ⟨cur, hc⟩ := owns_block g2 (k := rl) rfl
    unfold RowB at hk
    rw [e, hc] at hk
    have := (Obj.cells.inj (Option.some.inj hk)).2.1
    revert this; decide
  refine ⟨ht, h.le, by simpa using h.pos, by simpa using h.most, fun s hs => ?_, ?_, gs.set n g, by simpa using g1, ?_, fun i hi hi' => ?_, fun i j hi hj hij => ?_⟩
  · rcases List.mem_or_eq_of_mem_set hs with hs | hs
    · exact h.secs s hs
    · rw [hs]; exact hx
  · have := ht.heap h.cells hne
    simpa using this
  · rw [List.map_set]
    rcases g2.2 with ⟨e, _⟩ | ⟨gr, cap, cur, e, hBr, hgr, hnc, hcm, hcs, htk⟩
    · cases e
    · cases e
      have hsz : n < cur.size := by rw [hcs]; omega
      refine ⟨by simpa using g1, .inr ⟨rl, rc, cur.set n (sl64 g) hsz, by simp, hBr, ?_, by simpa using hnc, hcm, by simpa using hcs, ?_⟩⟩
      · rw [heap_setCell_same _ _ _ _ _ _ hgr]
        simp [Array.setIfInBounds, hsz]
      · simp only [List.length_set]
        rw [← htk]
        simp [List.take_set]
  · have hi2 : i < gs.length := by simpa using hi
    have hi3 : i < R.secs.length := by simpa using hi'
    by_cases hin : n = i
    · subst hin
      simp only [List.getElem_set_self]
      exact ⟨ht.heap hg (hnr hg), hB⟩
    · simp only [List.getElem_set_ne hin]
      exact ⟨ht.heap (g3 i hi2 hi3).1 (hnr (g3 i hi2 hi3).1), (g3 i hi2 hi3).2⟩
  · have hi2 : i < gs.length := by simpa using hi
    have hj2 : j < gs.length := by simpa using hj
    by_cases hin : n = i
    · subst hin
      rw [List.getElem_set_self, List.getElem_set_ne hij]
      exact Ne.symm (hfg j hj2)
    · rw [List.getElem_set_ne hin]
      by_cases hjn : n = j
      · subst hjn
        rw [List.getElem_set_self]
        exact hfg i hi2
      · rw [List.getElem_set_ne hjn]
        exact g4 i j hi2 hj2 hij

theorem IsRef.apartB {w : World} {B rd rl rc : Nat} {R : Dsk} (h : IsRef w B rd rl rc R) {a : Option Addr} {n c : Nat} {l : List UInt8} (hb : IsB w a n c l) : ∀ b off, a = some ⟨b, off, none⟩ → l ≠ [] → ¬ (b = rd) := by
  intro b off ha hl hbd
  subst hbd
  obtain ⟨_, _, _, ⟨h4, _⟩ | ⟨b', off', hv, _, hc⟩⟩ := hb
  · exact hl h4
  · rw [ha] at hv
    cases hv
    have h0 := hc 0 (List.length_pos_iff.2 hl)
    rw [cell_of_block h.cells] at h0
    match off, h0 with
    | 0, h0 => simp at h0
    | 1, h0 => simp at h0
    | 2, h0 => simp at h0
    | 3, h0 => simp at h0
    | k + 4, h0 => simp at h0

theorem rwrite_bad (B rd rl rc : Nat) (R : Dsk) (n : Int) (a : Option Addr) (m c : Nat) (w : World) (h : IsRef w B rd rl rc R) (hn : n < 0 ∨ (R.secs.length : Int) ≤ n ∨ 64 < m) :
    Calls Tryd.prog 19 #[.pointer (some ⟨rd, 0, none⟩), .int .i64 n, .slice a m c] w fun e w' => e = .returned (.int .i64 1) ∧ w = w' := by
  obtain ⟨f0, f1, f2, f3⟩ := h.field
  clear h
  by_cases c0 : n < 0
  · have h0 : decide (n < (0 : Int)) = true := by simpa using c0
    go_enter Tryd.func19, Tryd.ntmps19
    go_wp2
    go_ret
    exact ⟨rfl, rfl⟩
  · have h0 : decide (n < (0 : Int)) = false := by simpa using c0
    by_cases c1 : (R.secs.length : Int) ≤ n
    · have h1 : decide ((R.secs.length : Int) ≤ n) = true := by simpa using c1
      go_enter Tryd.func19, Tryd.ntmps19
      go_wp2
      go_ret
      exact ⟨rfl, rfl⟩
    · have h1 : decide ((R.secs.length : Int) ≤ n) = false := by simpa using c1
      have h2 : decide ((64 : Int) < (m : Int)) = true := by simp; omega
      go_enter Tryd.func19, Tryd.ntmps19
      go_wp2
      go_ret
      exact ⟨rfl, rfl⟩

theorem rwrite_blown (B rd rl rc : Nat) (R : Dsk) (n : Nat) (a : Option Addr) (m c : Nat) (w : World) (h : IsRef w B rd rl rc R) (hn : n < R.secs.length) (hm : m ≤ 64) (hb : R.blown = true ∨ R.left = 0) :
    Calls Tryd.prog 19 #[.pointer (some ⟨rd, 0, none⟩), .int .i64 n, .slice a m c] w fun e w' => e = .returned (.int .i64 8) ∧ Touch (fun k => k = rd) w w' ∧ IsRef w' B rd rl rc { R with blown := true } := by
  obtain ⟨f0, f1, f2, f3⟩ := h.field
  have h0 : decide ((n : Int) < (0 : Int)) = false := by simp
  have h1 : decide ((R.secs.length : Int) ≤ (n : Int)) = false := by simp; omega
  have h2 : decide ((64 : Int) < (m : Int)) = false := by simp; omega
  have hfr : ∀ i, w.frozen? ⟨rd, i, none⟩ = false := fun i => by simp [World.frozen?, h.cells]
  have H := Lib.hid h
  clear h
  cases hB : R.blown
  · have hl : R.left = 0 := by rw [hB] at hb; simpa using hb
    rw [hB] at f2
    rw [hl] at f1
    go_enter Tryd.func19, Tryd.ntmps19
    go_wp2
    go_ret
    refine ⟨rfl, (Touch.refl _ _).setCell _ _ (.inl rfl), H.out.own ((Touch.refl _ _).setCell _ _ (.inl rfl)) _ rfl ?_⟩
    rw [heap_setCell_same _ _ _ _ _ _ H.out.cells]; simp
  · rw [hB] at f2
    go_enter Tryd.func19, Tryd.ntmps19
    go_wp2
    go_ret
    refine ⟨rfl, Touch.refl _ _, ?_⟩
    have := H.out
    obtain ⟨S, l, b, nn⟩ := R
    obtain rfl : b = true := hB
    exact this

theorem rw_facts {w0 w1 w2 : World} {B rd rl rc : Nat} {R : Dsk} (h : IsRef w0 B rd rl rc R) (hb1 : Below w0.heap.size w0 w1) (G n : Nat) (hG : G = w0.heap.size) (b : List UInt8) (hb : b.length ≤ 64) (hn : n < R.secs.length)
    (hg2 : w2.heap[G]? = some (.cells (z64.toArray.toList.take 0 ++ bcells b ++ z64.toArray.toList.drop (0 + (bcells b).length)).toArray 5 (0, 0))) (ht2 : Touch (fun k => k = G) w1 w2) :
    w2.cell? ⟨rd, 0, none⟩ = some (.slice (some ⟨rl, 0, none⟩) R.secs.length rc) ∧ (∃ u, w2.cell? ⟨rl, n, none⟩ = some u) ∧ w2.frozen? ⟨rl, n, none⟩ = false ∧
      (w2.setCell ⟨rl, n, none⟩ (.slice (some ⟨G, 0, none⟩) 64 64)).cell? ⟨rd, 3, none⟩ = some (.int .i64 R.writes) ∧ (w2.setCell ⟨rl, n, none⟩ (.slice (some ⟨G, 0, none⟩) 64 64)).frozen? ⟨rd, 3, none⟩ = false ∧
      Hid (IsRef (w2.setCell ⟨rl, n, none⟩ (.slice (some ⟨G, 0, none⟩) 64 64)) B rd rl rc { R with secs := R.secs.set n (padS b) } ∧ Touch (fun k => k = rd ∨ k = rl) w0 (w2.setCell ⟨rl, n, none⟩ (.slice (some ⟨G, 0, none⟩) 64 64))) := by
  have epad : (z64.toArray.toList.take 0 ++ bcells b ++ z64.toArray.toList.drop (0 + (bcells b).length)).toArray = (bcells (padS b)).toArray := by
    rw [bcells_length]
    exact pad_cells b hb
  rw [epad] at hg2
  have hb2 : Below w0.heap.size w0 w2 := hb1.trans (ht2.below hb1.size (fun k hk e => by omega))
  have hr2 := h.below hb2
  have hlt0 := h.lt
  have hBW : B ≤ w0.heap.size := Nat.le_trans h.le (Nat.le_of_lt hlt0.1)
  obtain ⟨ht3, hr3⟩ := hr2.setSec n hn G (padS b) (padS_length b hb) hg2 (by omega) (fun i g' hi hc e => by
    have : w0.cell? ⟨rl, i, none⟩ = some (sl64 g') := (hb2.cell (p := ⟨rl, i, none⟩) hlt0.2.1).symm.trans hc
    have := h.sec_lt i hi g' this
    omega)
  obtain ⟨g2', c1, _⟩ := hr2.sec n hn
  refine ⟨hr2.field.1, ⟨_, c1⟩, ?_, hr3.field.2.2.2, book_frozen hr3.cells, Lib.hid ⟨hr3, (Touch.of_below hb2).trans (ht3.weaken (fun k _ hk => .inr hk))⟩⟩
  obtain ⟨gs, _, q2, _⟩ := hr2.row
  obtain ⟨cur, hc⟩ := owns_block q2 (k := rl) rfl
  exact book_frozen hc

set_option maxHeartbeats 2000000 in
theorem rwrite_neg (B rd rl rc : Nat) (R : Dsk) (n : Nat) (a : Option Addr) (m c : Nat) (b : List UInt8) (w : World) (h : IsRef w B rd rl rc R) (h1 : n < R.secs.length) (h2 : m ≤ 64) (hib : IsB w a m c b) (hB : R.blown = false) (hl : R.left < 0) (hw1 : 0 ≤ R.writes) (hw2 : R.writes < 4611686018427387904) :
    Calls Tryd.prog 19 #[.pointer (some ⟨rd, 0, none⟩), .int .i64 n, .slice a m c] w fun e w' => e = .returned (.int .i64 0) ∧ Touch (fun k => k = rd ∨ k = rl) w w' ∧ IsRef w' B rd rl rc { R with secs := R.secs.set n (padS b), left := R.left, writes := R.writes + 1 } := by
  obtain ⟨f0, f1, f2, f3⟩ := h.field
  obtain ⟨i0, hi, hz0, hz1, hz2⟩ := info_parts infoU8
  have k0 : decide ((n : Int) < (0 : Int)) = false := by simp
  have k1 : decide ((R.secs.length : Int) ≤ (n : Int)) = false := by simp; omega
  have k2 : decide ((64 : Int) < (m : Int)) = false := by simp; omega
  have k3 : (R.left == 0) = false := by rw [beq_eq_false_iff_ne]; omega
  have k4 : decide (0 < R.left) = false := by simp; omega
  rw [hB] at f2
  have hfr : ∀ i, w.frozen? ⟨rd, i, none⟩ = false := fun i => by simp [World.frozen?, h.cells]
  have H := Lib.hid h
  have HB := Lib.hid hib
  have hmb := hib.1
  have hbl : b.length ≤ 64 := by omega
  have hlen : Hid ((bcells b).length = Nat.min m 64 * 1) := Lib.hid (by rw [bcells_length, ← hmb, Nat.mul_one]; exact (Nat.min_eq_left h2).symm)
  have hfit : 0 + (bcells b).length ≤ z64.toArray.size := by rw [bcells_length, ← hmb, List.size_toArray, z64_length]; omega
  have HBW := HB
  have HR0 := H
  have HT0 : Hid (Touch (fun k => k = rd) w w) := Lib.hid (Touch.refl _ _)
  have HSZ : Hid (w.heap.size = w.heap.size) := Lib.hid rfl
  clear hmb h hib
  go_enter Tryd.func19, Tryd.ntmps19
  go_wp2_with (first
    | (refine wpList_make_full _ rfl _ _ 42 rfl w.heap.size 5 i0 _ 1 Tryd.underlying42 hi hz0 hz1 .i64 .i64 _ _ 64 rfl rfl rfl rfl (by rw [hz2]; decide) (by decide) (Nat.le_refl _) ?_; intro w1 hown1 hg1; have hb1 : Below w.heap.size w w1 := (Below.refl _ _).grown hg1 (Nat.le_refl _) (by simp); rw [z64_made] at hown1; have hrow := (row_of_owns hown1).1; have hat := (HBW.out.below hb1).at; rw [HSZ.out] at hrow; have HB1 := Lib.hid hb1; clear hb1 hown1 hg1)
    | (refine wpList_copy_any rowU8 rfl (.tmp 49) (.tmp 50) 42 rfl (some ⟨w.heap.size, 0, none⟩) a 64 64 m c rfl rfl w.heap.size 0 z64.toArray 5 hrow (bcells b) hlen.out (fun _ => rfl) hat hfit (bcells_one _) ?_; intro w2 hg2 ht2; obtain ⟨q0, ⟨u, q1⟩, q2, q3, q4, Q⟩ := rw_facts HR0.out HB1.out w.heap.size n HSZ.out.symm b hbl (by exact h1) hg2 ht2; (try dsimp only at q0 q3); clear hg2 ht2 hrow hat)
    | fail)
  go_ret
  obtain ⟨hr3, ht3⟩ := Q.out
  refine ⟨rfl, ((HT0.out.weaken (fun k _ hk => .inl hk)).trans ht3).setCell _ _ (.inl (.inl rfl)), hr3.own ((Touch.refl _ _).setCell _ _ (.inl rfl)) _ rfl ?_⟩
  rw [heap_setCell_same _ _ _ _ _ _ hr3.cells]
  simp [hB]

set_option maxHeartbeats 2000000 in
theorem rwrite_pos (B rd rl rc : Nat) (R : Dsk) (n : Nat) (a : Option Addr) (m c : Nat) (b : List UInt8) (w : World) (h : IsRef w B rd rl rc R) (h1 : n < R.secs.length) (h2 : m ≤ 64) (hib : IsB w a m c b) (hB : R.blown = false) (hl : 0 < R.left) (hl2 : R.left ≤ 9223372036854775807) (hw1 : 0 ≤ R.writes) (hw2 : R.writes < 4611686018427387904) :
    Calls Tryd.prog 19 #[.pointer (some ⟨rd, 0, none⟩), .int .i64 n, .slice a m c] w fun e w' => e = .returned (.int .i64 0) ∧ Touch (fun k => k = rd ∨ k = rl) w w' ∧ IsRef w' B rd rl rc { R with secs := R.secs.set n (padS b), left := R.left - 1, writes := R.writes + 1 } := by
  obtain ⟨f0, f1, f2, f3⟩ := h.field
  obtain ⟨i0, hi, hz0, hz1, hz2⟩ := info_parts infoU8
  have k0 : decide ((n : Int) < (0 : Int)) = false := by simp
  have k1 : decide ((R.secs.length : Int) ≤ (n : Int)) = false := by simp; omega
  have k2 : decide ((64 : Int) < (m : Int)) = false := by simp; omega
  have k3 : (R.left == 0) = false := by rw [beq_eq_false_iff_ne]; omega
  have k4 : decide (0 < R.left) = true := by simp; omega
  rw [hB] at f2
  have hfr : ∀ i, w.frozen? ⟨rd, i, none⟩ = false := fun i => by simp [World.frozen?, h.cells]
  have H := Lib.hid h
  have HB := Lib.hid hib
  have hmb := hib.1
  have hbl : b.length ≤ 64 := by omega
  have hlen : Hid ((bcells b).length = Nat.min m 64 * 1) := Lib.hid (by rw [bcells_length, ← hmb, Nat.mul_one]; exact (Nat.min_eq_left h2).symm)
  have hfit : 0 + (bcells b).length ≤ z64.toArray.size := by rw [bcells_length, ← hmb, List.size_toArray, z64_length]; omega
  have ht0 : Touch (fun k => k = rd) w (w.setCell ⟨rd, 1, none⟩ (.int .i64 (R.left - 1))) := (Touch.refl _ _).setCell _ _ (.inl rfl)
  have hr0 : IsRef (w.setCell ⟨rd, 1, none⟩ (.int .i64 (R.left - 1))) B rd rl rc { R with left := R.left - 1 } := H.out.own ht0 _ rfl (by
    rw [heap_setCell_same _ _ _ _ _ _ H.out.cells]; simp)
  have hsz0 : (w.setCell ⟨rd, 1, none⟩ (.int .i64 (R.left - 1))).heap.size = w.heap.size := by simp [World.setCell]
  have HBW := Lib.hid (HB.out.touch ht0 (H.out.apartB HB.out))
  have HR0 := Lib.hid hr0
  have HT0 := Lib.hid ht0
  have HSZ := Lib.hid hsz0
  clear hsz0 hr0 ht0 hmb h hib
  go_enter Tryd.func19, Tryd.ntmps19
  go_wp2_with (first
    | (refine wpList_make_full _ rfl _ _ 42 rfl (w.setCell ⟨rd, 1, none⟩ (.int .i64 (R.left - 1))).heap.size 5 i0 _ 1 Tryd.underlying42 hi hz0 hz1 .i64 .i64 _ _ 64 rfl rfl rfl rfl (by rw [hz2]; decide) (by decide) (Nat.le_refl _) ?_; intro w1 hown1 hg1; have hb1 : Below (w.setCell ⟨rd, 1, none⟩ (.int .i64 (R.left - 1))).heap.size (w.setCell ⟨rd, 1, none⟩ (.int .i64 (R.left - 1))) w1 := (Below.refl _ _).grown hg1 (Nat.le_refl _) (by simp); rw [z64_made] at hown1; have hrow := (row_of_owns hown1).1; have hat := (HBW.out.below hb1).at; rw [HSZ.out] at hrow; have HB1 := Lib.hid hb1; clear hb1 hown1 hg1)
    | (refine wpList_copy_any rowU8 rfl (.tmp 49) (.tmp 50) 42 rfl (some ⟨w.heap.size, 0, none⟩) a 64 64 m c rfl rfl w.heap.size 0 z64.toArray 5 hrow (bcells b) hlen.out (fun _ => rfl) hat hfit (bcells_one _) ?_; intro w2 hg2 ht2; obtain ⟨q0, ⟨u, q1⟩, q2, q3, q4, Q⟩ := rw_facts HR0.out HB1.out w.heap.size n HSZ.out.symm b hbl (by exact h1) hg2 ht2; (try dsimp only at q0 q3); clear hg2 ht2 hrow hat)
    | fail)
  go_ret
  obtain ⟨hr3, ht3⟩ := Q.out
  refine ⟨rfl, ((HT0.out.weaken (fun k _ hk => .inl hk)).trans ht3).setCell _ _ (.inl (.inl rfl)), hr3.own ((Touch.refl _ _).setCell _ _ (.inl rfl)) _ rfl ?_⟩
  rw [heap_setCell_same _ _ _ _ _ _ hr3.cells]
  simp [hB]

theorem rwrite_any (B rd rl rc : Nat) (R : Dsk) (n : Int) (a : Option Addr) (m c : Nat) (b : List UInt8) (w : World) (h : IsRef w B rd rl rc R) (hib : IsB w a m c b) (hok : R.ok) :
    Calls Tryd.prog 19 #[.pointer (some ⟨rd, 0, none⟩), .int .i64 n, .slice a m c] w fun e w' => e = .returned (.int .i64 (R.write n b).1) ∧ Touch (fun k => k = rd ∨ k = rl) w w' ∧ IsRef w' B rd rl rc (R.write n b).2 := by
  have hm := hib.1
  by_cases h1 : n < 0 ∨ (R.secs.length : Int) ≤ n ∨ 64 < b.length
  · have e : R.write n b = (1, R) := if_pos h1
    rw [e]
    refine (rwrite_bad B rd rl rc R n a m c w h (by omega)).mono ?_
    rintro e w' ⟨he, rfl⟩
    exact ⟨he, Touch.refl _ _, h⟩
  obtain ⟨k, rfl⟩ := Int.eq_ofNat_of_zero_le (show 0 ≤ n by omega)
  by_cases h2 : R.blown = true ∨ R.left = 0
  · have e : R.write k b = (8, { R with blown := true }) := by unfold Dsk.write; rw [if_neg h1, if_pos h2]
    rw [e]
    refine (rwrite_blown B rd rl rc R k a m c w h (by omega) (by omega) h2).mono ?_
    rintro e w' ⟨he, ht, hd⟩
    exact ⟨he, ht.weaken (fun k _ hk => .inl hk), hd⟩
  have e : R.write k b = (0, { R with secs := R.secs.set (k : Int).toNat (padS b), left := if 0 < R.left then R.left - 1 else R.left, writes := R.writes + 1 }) := by unfold Dsk.write; rw [if_neg h1, if_neg h2]
  have hB : R.blown = false := by
    cases hb : R.blown with
    | false => rfl
    | true => exact absurd (.inl hb) h2
  rw [e]
  by_cases h3 : 0 < R.left
  · rw [if_pos h3]
    exact rwrite_pos B rd rl rc R k a m c b w h (by omega) (by omega) hib hB h3 hok.2.2 hok.1 hok.2.1
  · rw [if_neg h3]
    exact rwrite_neg B rd rl rc R k a m c b w h (by omega) (by omega) hib hB (by omega) hok.1 hok.2.1

end Go.Proofs.YtppmpgkkegldnaaDoor
