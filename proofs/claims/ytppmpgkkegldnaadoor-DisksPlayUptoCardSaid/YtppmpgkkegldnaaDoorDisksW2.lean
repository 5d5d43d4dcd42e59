/- disks: Write, where it is let be; conditions: those typed. -/
import Derived.Test.YtppmpgkkegldnaaDoorDisksW
namespace Go.Proofs.YtppmpgkkegldnaaDoor
open Go.RowKit
set_option linter.unusedVariables false

theorem zeroSec : (Tryd.prog.info? 65).map (·.zero) = some (some (.agg (Array.replicate 64 (.int .u8 0)))) := by kernel_rfl
theorem zeroSec_cells : (Value.agg (Array.replicate 64 (.int .u8 0))).cells = z64.toArray := by
  unfold z64 bcells zsec
  rw [List.map_replicate]
  exact (List.toArray_replicate ..).symm

theorem pad_cells (b : List UInt8) (h : b.length ≤ 64) : (z64.toArray.toList.take 0 ++ bcells b ++ z64.toArray.toList.drop (0 + b.length)).toArray = (bcells (padS b)).toArray := by
  unfold padS z64 zsec
  rw [bcells_append, bcells_zeros, bcells_zeros]
  simp only [List.take_zero, List.nil_append, Nat.zero_add]
  rw [List.drop_replicate]

theorem secs_set {L : List (List UInt8)} (h : Secs L) (n : Nat) (b : List UInt8) (hb : b.length ≤ 64) : Secs (L.set n (padS b)) := by
  intro s hs
  rcases List.mem_or_eq_of_mem_set hs with h1 | h1
  · exact h s h1
  · rw [h1]; exact padS_length b hb

theorem htV_cell {S : Nat → Prop} {w w' : World} (h : Touch S w w') {b o : Nat} {v : Value} (hp : w.cell? ⟨b, o, none⟩ = some v) (hs : ¬ S b) : w'.cell? ⟨b, o, none⟩ = some v := h.cell hp hs

set_option maxRecDepth 100000 in
set_option maxHeartbeats 2000000 in
theorem write_ok_neg (bd bl : Nat) (D : Dsk) (n : Nat) (a : Option Addr) (m c : Nat) (b : List UInt8) (w : World) (h : IsDisk w bd bl D) (h1 : n < D.secs.length) (h2 : m ≤ 64) (hib : IsB w a m c b) (hB : D.blown = false) (hl : D.left < 0) (hw1 : 0 ≤ D.writes) (hw2 : D.writes < 4611686018427387904) :
    Calls Tryd.prog 17 #[.pointer (some ⟨bd, 0, none⟩), .int .i64 n, .slice a m c] w fun e w' => e = .returned (.int .i64 0) ∧ Touch (fun k => k = bd ∨ k = bl) w w' ∧ IsDisk w' bd bl { D with secs := D.secs.set n (padS b), writes := D.writes + 1 } := by
  have HV : Hid (thereI D n m = 0) := Lib.hid (if_neg (by omega))
  have hbel := wW_below w bd a m c
  have hw := h.touch (Touch.of_below (S := fun _ => False) hbel) id id
  have hcb := (wW_cells w bd a m c).2
  have hcf := (wW_cells w bd a m c).1
  have hibW := hib.below hbel
  have hlt := h.lt
  obtain ⟨W, hW⟩ : ∃ W, W = wW w bd a m c := ⟨_, rfl⟩
  rw [← hW] at hbel hw hcb hcf hibW
  have HW := Lib.hid hW
  clear hW
  obtain ⟨f0, f1, f2, f3⟩ := hw.field
  rw [hB] at f2
  have hd0 : (D.left == 0) = false := by rw [beq_eq_false_iff_ne]; omega
  have hd1 : decide (0 < D.left) = false := by simp; omega
  have hfr : ∀ i, W.frozen? ⟨bd, i, none⟩ = false := fun i => by simp [World.frozen?, hw.cells]
  have H := Lib.hid h
  clear h
  go_enter Tryd.func17, Tryd.ntmps17
  go_wp2_with fail
  rw [show (w.alloc (.cells #[.slice a m c] 42)).alloc (.cells #[.func (Fn.func 27) #[.pointer (some ⟨bd, 0, none⟩)] #[]] 64) = W from HW.out.symm]
  refine (there_w bd bl D n a m c _ _ W hw hcf hcb).mono ?_; rintro e w' ⟨rfl, rfl⟩
  rw [HV.out]
  go_wp2_with (refine wpList_alloc_any rfl 65 rfl _ zeroSec _ zeroSec_cells ?_)
  go_frame
  have hblk : (W.alloc (.cells z64.toArray 65)).drew.heap[W.heap.size]? = some (.cells z64.toArray 65 (0, 0)) := heap_new W _
  have hibA : IsB (W.alloc (.cells z64.toArray 65)).drew a m c b := hibW.below (((Below.refl _ _).alloc (Nat.le_refl _) _).drew)
  have hcbA := cell_alloc hcb (.cells z64.toArray 65)
  have hmb := hib.1
  have hlen : Hid ((bcells b).length = Nat.min m 64 * 1) := Lib.hid (by rw [bcells_length, ← hmb, Nat.mul_one]; exact (Nat.min_eq_left h2).symm)
  have hfit : 0 + (bcells b).length ≤ z64.toArray.size := by rw [bcells_length, ← hmb, List.size_toArray, z64_length]; omega
  clear hmb
  go_region_law (first
    | (refine step_copy_any rowU8 rfl (.tmp 48) (.tmp 49) 42 (by rfl) (some ⟨W.heap.size, 0, none⟩) a 64 64 m c (by simp [Act.eval]) (by simp [Act.eval]) W.heap.size 0 z64.toArray 65 hblk (bcells b) hlen.out (fun _ => rfl) hibA.at hfit (bcells_one _) ?_; intro w2 hg2 ht2)
    | fail)
  have epad : (z64.toArray.toList.take 0 ++ bcells b ++ z64.toArray.toList.drop (0 + (bcells b).length)).toArray = (bcells (padS b)).toArray := by
    rw [bcells_length]
    exact pad_cells b (by have := hib.1; omega)
  rw [epad] at hg2
  have hltW := hw.lt
  have hd2 : IsDisk w2 bd bl D := ((hw.touch (Touch.of_below (S := fun _ => False) (((Below.refl _ _).alloc (Nat.le_refl _) (.cells z64.toArray 65)).drew)) id id).touch ht2 (by omega) (by omega))
  have hT2 : Touch (fun k => k = bd ∨ k = bl) w w2 := (((Touch.of_below hbel).alloc (.cells z64.toArray 65)).drew).andThen ht2 (fun j hj => .inr (by have := hbel.size; omega))
  have hWg : W.heap.size < w2.heap.size := lt_of_heap hg2
  clear epad hibA hblk hcbA hfit hlen ht2 f0 f1 f2 f3 hfr
  obtain ⟨f0, f1, f2, f3⟩ := hd2.field
  go_wp2_with fail
  have hu := Tryd.underlying65
  have hi64 : (Tryd.prog.info? 65).map (·.size) = some (bcells (padS b)).length := by rw [bcells_length, padS_length b (by have := hib.1; omega)]; exact sizeSec
  have hlen64 : (bcells (padS b)).length = 64 := by rw [bcells_length, padS_length b (by have := hib.1; omega)]
  have hone := bcells_one (padS b)
  have hr : w2.rangeAt W.heap.size 0 (bcells (padS b)) := rangeAt_row hg2
  have hfl : D.secs.flatten.length = D.secs.length * 64 := flat_length hd2.secs
  have ht : w2.there bl (n * 64) 64 := there_row hd2.row _ _ (by rw [List.size_toArray, bcells_length, hfl]; omega)
  have hap : bd ≠ bl := hd2.apart
  have hkeep : (w2.drew.setCells bl (n * 64) (bcells (padS b))).cell? ⟨bd, 0, none⟩ = some (.slice (some ⟨bl, 0, none⟩) D.secs.length D.secs.length) ∧ (w2.drew.setCells bl (n * 64) (bcells (padS b))).rangeAt W.heap.size 0 (bcells (padS b)) ∧ (w2.drew.setCells bl (n * 64) (bcells (padS b))).there bl (n * 64) 64 := by
    refine ⟨?_, World.rangeAt_setCells_apart (w := w2.drew) hr _ _ _ (by omega), World.there_setCells (w := w2.drew) ht _ _ _⟩
    rw [World.cell?_setCells_out _ _ _ _ _ (fun h => absurd h hap)]
    exact f0
  go_region_held3 (fun w' => w'.cell? ⟨bd, 0, none⟩ = some (.slice (some ⟨bl, 0, none⟩) D.secs.length D.secs.length) ∧ w'.rangeAt W.heap.size 0 (bcells (padS b)) ∧ w'.there bl (n * 64) 64) (first | go_keep_ranges | exact hkeep) (fail)
  obtain ⟨hs1, hs2⟩ := setCells_heap Tryd.prog w2.drew bl (n * 64) (bcells (padS b)) (bcells D.secs.flatten).toArray 65 hd2.row (by rw [List.size_toArray, bcells_length, bcells_length, hfl, padS_length b (by have := hib.1; omega)]; omega) hone
  have hd3 : IsDisk (w2.drew.setCells bl (n * 64) (bcells (padS b))) bd bl { D with secs := D.secs.set n (padS b) } := by
    refine ⟨hd2.apart, by simpa using hd2.pos, by simpa using hd2.most, secs_set hd2.secs n b (by have := hib.1; omega), ?_, ?_⟩
    · have := hs2.heap (k := bd) hd2.cells hap
      simpa using this
    · rw [hs1, hlen64, flat_set hd2.secs n h1 (padS b), bcells_append, bcells_append]
      simp [bcells]
  have hT3 : Touch (fun k => k = bd ∨ k = bl) w (w2.drew.setCells bl (n * 64) (bcells (padS b))) := hT2.drew.andThen hs2 (fun j hj => .inl (.inr hj))
  revert hd3 hT3
  generalize w2.drew.setCells bl (n * 64) (bcells (padS b)) = W3
  intro hd3 hT3
  clear hkeep hs1 hs2 hr ht f0 f1 f2 f3 hg2 hu hi64 hlen64 hone hfl hd2 hT2 hWg
  obtain ⟨f0, f1, f2, f3⟩ := hd3.field
  have hfr : ∀ i, W3.frozen? ⟨bd, i, none⟩ = false := fun i => by simp [World.frozen?, hd3.cells]
  have H3 := Lib.hid hd3
  clear hd3
  go_wp2_with fail
  go_ret
  have hd3 := H3.out
  refine ⟨rfl, hT3.setCell _ _ (.inl (.inl rfl)), ⟨hd3.apart, hd3.pos, hd3.most, hd3.secs, ?_, ?_⟩⟩
  · rw [heap_setCell_same _ _ _ _ _ _ hd3.cells]
    simp [hB]
  · rw [Below.heap_setCell _ _ _ _ (Ne.symm hd3.apart)]; exact hd3.row

set_option maxRecDepth 100000 in
set_option maxHeartbeats 2000000 in
theorem write_ok_pos (bd bl : Nat) (D : Dsk) (n : Nat) (a : Option Addr) (m c : Nat) (b : List UInt8) (w : World) (h : IsDisk w bd bl D) (h1 : n < D.secs.length) (h2 : m ≤ 64) (hib : IsB w a m c b) (hB : D.blown = false) (hl : 0 < D.left) (hl2 : D.left ≤ 9223372036854775807) (hw1 : 0 ≤ D.writes) (hw2 : D.writes < 4611686018427387904) :
    Calls Tryd.prog 17 #[.pointer (some ⟨bd, 0, none⟩), .int .i64 n, .slice a m c] w fun e w' => e = .returned (.int .i64 0) ∧ Touch (fun k => k = bd ∨ k = bl) w w' ∧ IsDisk w' bd bl { D with secs := D.secs.set n (padS b), left := D.left - 1, writes := D.writes + 1 } := by
  have HV : Hid (thereI D n m = 0) := Lib.hid (if_neg (by omega))
  have hbel := wW_below w bd a m c
  have hw := h.touch (Touch.of_below (S := fun _ => False) hbel) id id
  have hcb := (wW_cells w bd a m c).2
  have hcf := (wW_cells w bd a m c).1
  have hibW := hib.below hbel
  have hlt := h.lt
  obtain ⟨W, hW⟩ : ∃ W, W = wW w bd a m c := ⟨_, rfl⟩
  rw [← hW] at hbel hw hcb hcf hibW
  have HW := Lib.hid hW
  clear hW
  obtain ⟨f0, f1, f2, f3⟩ := hw.field
  rw [hB] at f2
  have hd0 : (D.left == 0) = false := by rw [beq_eq_false_iff_ne]; omega
  have hd1 : decide (0 < D.left) = true := by simp; omega
  have hfr : ∀ i, W.frozen? ⟨bd, i, none⟩ = false := fun i => by simp [World.frozen?, hw.cells]
  have hv : IsDisk (W.setCell ⟨bd, 1, none⟩ (.int .i64 (D.left - 1))) bd bl { D with left := D.left - 1 } := by
    refine ⟨hw.apart, hw.pos, hw.most, hw.secs, ?_, ?_⟩
    · rw [heap_setCell_same _ _ _ _ _ _ hw.cells]; simp
    · rw [Below.heap_setCell _ _ _ _ (Ne.symm hw.apart)]; exact hw.row
  have hsame : (W.setCell ⟨bd, 1, none⟩ (.int .i64 (D.left - 1))).heap.size = W.heap.size := by simp
  have htV : Touch (fun k => k = bd) W (W.setCell ⟨bd, 1, none⟩ (.int .i64 (D.left - 1))) := (Touch.refl _ W).setCell _ _ (.inl rfl)
  have HS := Lib.hid hsame
  have HVd := Lib.hid hv
  have HtV := Lib.hid htV
  have H := Lib.hid h
  clear h hsame hv htV
  go_enter Tryd.func17, Tryd.ntmps17
  go_wp2_with fail
  rw [show (w.alloc (.cells #[.slice a m c] 42)).alloc (.cells #[.func (Fn.func 27) #[.pointer (some ⟨bd, 0, none⟩)] #[]] 64) = W from HW.out.symm]
  refine (there_w bd bl D n a m c _ _ W hw hcf hcb).mono ?_; rintro e w' ⟨rfl, rfl⟩
  rw [HV.out]
  go_wp2_with (refine wpList_alloc_any rfl 65 rfl _ zeroSec _ zeroSec_cells ?_)
  go_frame
  have hcbV := htV_cell HtV.out hcb (by omega)
  have hTV : Touch (fun k => k = bd ∨ k = bl) w (W.setCell ⟨bd, 1, none⟩ (.int .i64 (D.left - 1))) := (Touch.of_below hbel).andThen HtV.out (fun j hj => .inl (.inl hj))
  have hdv := HVd.out
  have hsz := HS.out
  have hszW : w.heap.size ≤ W.heap.size := hbel.size
  have hibV := hibW.touch HtV.out (hw.apartB hibW)
  revert hcbV hTV hdv hsz hibV
  clear HVd HS HtV f0 f1 f2 f3 hfr hcb hcf hibW hw HW
  generalize W.setCell ⟨bd, 1, none⟩ (.int .i64 (D.left - 1)) = V
  intro hcbV hTV hdv hsz hibV
  have hszV : w.heap.size ≤ V.heap.size := by omega
  clear hsz
  have hblk : (V.alloc (.cells z64.toArray 65)).drew.heap[V.heap.size]? = some (.cells z64.toArray 65 (0, 0)) := heap_new V _
  have hibA : IsB (V.alloc (.cells z64.toArray 65)).drew a m c b := hibV.below (((Below.refl _ _).alloc (Nat.le_refl _) _).drew)
  have hcbA := cell_alloc hcbV (.cells z64.toArray 65)
  have hmb := hib.1
  have hlen : Hid ((bcells b).length = Nat.min m 64 * 1) := Lib.hid (by rw [bcells_length, ← hmb, Nat.mul_one]; exact (Nat.min_eq_left h2).symm)
  have hfit : 0 + (bcells b).length ≤ z64.toArray.size := by rw [bcells_length, ← hmb, List.size_toArray, z64_length]; omega
  clear hmb
  go_region_law (first
    | (refine step_copy_any rowU8 rfl (.tmp 48) (.tmp 49) 42 (by rfl) (some ⟨V.heap.size, 0, none⟩) a 64 64 m c (by simp [Act.eval]) (by simp [Act.eval]) V.heap.size 0 z64.toArray 65 hblk (bcells b) hlen.out (fun _ => rfl) hibA.at hfit (bcells_one _) ?_; intro w2 hg2 ht2)
    | fail)
  have epad : (z64.toArray.toList.take 0 ++ bcells b ++ z64.toArray.toList.drop (0 + (bcells b).length)).toArray = (bcells (padS b)).toArray := by
    rw [bcells_length]
    exact pad_cells b (by have := hib.1; omega)
  rw [epad] at hg2
  have hltW := hdv.lt
  have hd2 : IsDisk w2 bd bl { D with left := D.left - 1 } := ((hdv.touch (Touch.of_below (S := fun _ => False) (((Below.refl _ _).alloc (Nat.le_refl _) (.cells z64.toArray 65)).drew)) id id).touch ht2 (by omega) (by omega))
  have hT2 : Touch (fun k => k = bd ∨ k = bl) w w2 := ((hTV.alloc (.cells z64.toArray 65)).drew).andThen ht2 (fun j hj => .inr (by omega))
  have hWg : V.heap.size < w2.heap.size := lt_of_heap hg2
  clear epad hibA hblk hcbA hfit hlen ht2
  obtain ⟨f0, f1, f2, f3⟩ := hd2.field
  go_wp2_with fail
  have hu := Tryd.underlying65
  have hi64 : (Tryd.prog.info? 65).map (·.size) = some (bcells (padS b)).length := by rw [bcells_length, padS_length b (by have := hib.1; omega)]; exact sizeSec
  have hlen64 : (bcells (padS b)).length = 64 := by rw [bcells_length, padS_length b (by have := hib.1; omega)]
  have hone := bcells_one (padS b)
  have hr : w2.rangeAt V.heap.size 0 (bcells (padS b)) := rangeAt_row hg2
  have hfl : D.secs.flatten.length = D.secs.length * 64 := flat_length hd2.secs
  have ht : w2.there bl (n * 64) 64 := there_row hd2.row _ _ (by rw [List.size_toArray, bcells_length, hfl]; omega)
  have hap : bd ≠ bl := hd2.apart
  have hkeep : (w2.drew.setCells bl (n * 64) (bcells (padS b))).cell? ⟨bd, 0, none⟩ = some (.slice (some ⟨bl, 0, none⟩) D.secs.length D.secs.length) ∧ (w2.drew.setCells bl (n * 64) (bcells (padS b))).rangeAt V.heap.size 0 (bcells (padS b)) ∧ (w2.drew.setCells bl (n * 64) (bcells (padS b))).there bl (n * 64) 64 := by
    refine ⟨?_, World.rangeAt_setCells_apart (w := w2.drew) hr _ _ _ (by omega), World.there_setCells (w := w2.drew) ht _ _ _⟩
    rw [World.cell?_setCells_out _ _ _ _ _ (fun h => absurd h hap)]
    exact f0
  go_region_held3 (fun w' => w'.cell? ⟨bd, 0, none⟩ = some (.slice (some ⟨bl, 0, none⟩) D.secs.length D.secs.length) ∧ w'.rangeAt V.heap.size 0 (bcells (padS b)) ∧ w'.there bl (n * 64) 64) (first | go_keep_ranges | exact hkeep) (fail)
  obtain ⟨hs1, hs2⟩ := setCells_heap Tryd.prog w2.drew bl (n * 64) (bcells (padS b)) (bcells D.secs.flatten).toArray 65 hd2.row (by rw [List.size_toArray, bcells_length, bcells_length, hfl, padS_length b (by have := hib.1; omega)]; omega) hone
  have hd3 : IsDisk (w2.drew.setCells bl (n * 64) (bcells (padS b))) bd bl { D with secs := D.secs.set n (padS b), left := D.left - 1 } := by
    refine ⟨hd2.apart, by simpa using hd2.pos, by simpa using hd2.most, secs_set hd2.secs n b (by have := hib.1; omega), ?_, ?_⟩
    · have := hs2.heap (k := bd) hd2.cells hap
      simpa using this
    · rw [hs1, hlen64, flat_set hd2.secs n h1 (padS b), bcells_append, bcells_append]
      simp [bcells]
  have hT3 : Touch (fun k => k = bd ∨ k = bl) w (w2.drew.setCells bl (n * 64) (bcells (padS b))) := hT2.drew.andThen hs2 (fun j hj => .inl (.inr hj))
  revert hd3 hT3
  generalize w2.drew.setCells bl (n * 64) (bcells (padS b)) = W3
  intro hd3 hT3
  clear hkeep hs1 hs2 hr ht f0 f1 f2 f3 hg2 hu hi64 hlen64 hone hfl hd2 hT2 hWg
  obtain ⟨f0, f1, f2, f3⟩ := hd3.field
  have hfr : ∀ i, W3.frozen? ⟨bd, i, none⟩ = false := fun i => by simp [World.frozen?, hd3.cells]
  have H3 := Lib.hid hd3
  clear hd3
  go_wp2_with fail
  go_ret
  have hd3 := H3.out
  refine ⟨rfl, hT3.setCell _ _ (.inl (.inl rfl)), ⟨hd3.apart, hd3.pos, hd3.most, hd3.secs, ?_, ?_⟩⟩
  · rw [heap_setCell_same _ _ _ _ _ _ hd3.cells]
    simp [hB]
  · rw [Below.heap_setCell _ _ _ _ (Ne.symm hd3.apart)]; exact hd3.row

end Go.Proofs.YtppmpgkkegldnaaDoor
