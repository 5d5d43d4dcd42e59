/- The package sessions: Copy; conditions: those typed. -/
import Derived.Test.YthadgnaaipdpaaaGreatDoorSessN
import Derived.Shelf.SlMaps.Clone
namespace Go.Proofs.YthadgnaaipdpaaaGreatDoor
open Go.RowKit
set_option linter.unusedVariables false
set_option maxRecDepth 100000

set_option maxHeartbeats 2000000 in
theorem mclone1 (b : Nat) (es : Array MapEntry) (clock : Nat) (w : World) (hb : w.heap[b]? = some (.map es clock)) :
    Calls Tryz.prog 39 #[.map (some b)] w fun e w' => e = .returned (.map (some w.heap.size)) ∧ w' = w.alloc (.map es clock) := by
  have hq := fun w => run_eql_map_nil_sl (P := Tryz.prog) w 70 _ _ (some b) Tryz.underlying70
  go_enter Tryz.func39, Tryz.ntmps39
  go_wp2
  rw [run_callFunc_extern Tryz.func71 (by kernel_rfl) (by kernel_rfl) (by kernel_rfl) (e := Extern.MapsClone.clone) (by kernel_rfl), run_maps_clone_sl w 70 hb]
  simp only [Result.andThen]
  rw [Oper.upon_value]
  go_wp2
  rw [run_typeAssert_map_sl _ 70 20 _ _ _ Tryz.underlying70]
  simp only [Result.andThen]
  rw [Oper.upon_value]
  go_wp2
  go_ret
  exact ⟨rfl, rfl⟩
set_option maxHeartbeats 2000000 in
theorem mclone2 (b : Nat) (es : Array MapEntry) (clock : Nat) (w : World) (hb : w.heap[b]? = some (.map es clock)) :
    Calls Tryz.prog 40 #[.map (some b)] w fun e w' => e = .returned (.map (some w.heap.size)) ∧ w' = w.alloc (.map es clock) := by
  have hq := fun w => run_eql_map_nil_sl (P := Tryz.prog) w 71 _ _ (some b) Tryz.underlying71
  go_enter Tryz.func40, Tryz.ntmps40
  go_wp2
  rw [run_callFunc_extern Tryz.func71 (by kernel_rfl) (by kernel_rfl) (by kernel_rfl) (e := Extern.MapsClone.clone) (by kernel_rfl), run_maps_clone_sl w 71 hb]
  simp only [Result.andThen]
  rw [Oper.upon_value]
  go_wp2
  rw [run_typeAssert_map_sl _ 71 20 _ _ _ Tryz.underlying71]
  simp only [Result.andThen]
  rw [Oper.upon_value]
  go_wp2
  go_ret
  exact ⟨rfl, rfl⟩
set_option maxHeartbeats 2000000 in
theorem mclone3 (b : Nat) (es : Array MapEntry) (clock : Nat) (w : World) (hb : w.heap[b]? = some (.map es clock)) :
    Calls Tryz.prog 41 #[.map (some b)] w fun e w' => e = .returned (.map (some w.heap.size)) ∧ w' = w.alloc (.map es clock) := by
  have hq := fun w => run_eql_map_nil_sl (P := Tryz.prog) w 72 _ _ (some b) Tryz.underlying72
  go_enter Tryz.func41, Tryz.ntmps41
  go_wp2
  rw [run_callFunc_extern Tryz.func71 (by kernel_rfl) (by kernel_rfl) (by kernel_rfl) (e := Extern.MapsClone.clone) (by kernel_rfl), run_maps_clone_sl w 72 hb]
  simp only [Result.andThen]
  rw [Oper.upon_value]
  go_wp2
  rw [run_typeAssert_map_sl _ 72 20 _ _ _ Tryz.underlying72]
  simp only [Result.andThen]
  rw [Oper.upon_value]
  go_wp2
  go_ret
  exact ⟨rfl, rfl⟩

/-- The clones in one. -/
theorem clones {w : World} {bt b1 b2 b3 : Nat} {T : Tbl} (h : IsTbl w bt b1 b2 b3 T) : ∃ e1 k1 e2 k2 e3 k3, w.heap[b1]? = some (.map e1 k1) ∧ w.heap[b2]? = some (.map e2 k2) ∧ w.heap[b3]? = some (.map e3 k3) := by
  obtain ⟨f, ⟨e1, k1, h1, _⟩, _⟩ := h.m1
  obtain ⟨e2, k2, h2, _⟩ := h.m2
  obtain ⟨g, ⟨e3, k3, h3, _⟩, _⟩ := h.m3
  exact ⟨e1, k1, e2, k2, e3, k3, h1, h2, h3⟩
theorem MapF.as {w w' : World} {b b' : Nat} {f : UInt8 → Option Value} {es : Array MapEntry} {c : Nat} (h : MapF uk w b f) (hb : w.heap[b]? = some (.map es c)) (hb' : w'.heap[b']? = some (.map es c)) : MapF uk w' b' f := by
  obtain ⟨es', c', hb2, r⟩ := h
  rw [hb] at hb2
  cases hb2
  exact ⟨es, c, hb', r⟩
/-- Three new blocks with the entries of a table's maps, and its struct. -/
theorem copy_end {w w' : World} {bt b1 b2 b3 : Nat} {T : Tbl} {e1 e2 e3 : Array MapEntry} {k1 k2 k3 ct c1 c2 c3 : Nat} (h : IsTbl w bt b1 b2 b3 T) (hb : Below w.heap.size w w')
    (h1 : w.heap[b1]? = some (.map e1 k1)) (h2 : w.heap[b2]? = some (.map e2 k2)) (h3 : w.heap[b3]? = some (.map e3 k3))
    (g1 : w'.heap[c1]? = some (.map e1 k1)) (g2 : w'.heap[c2]? = some (.map e2 k2)) (g3 : w'.heap[c3]? = some (.map e3 k3)) (n12 : c1 ≠ c2) (n13 : c1 ≠ c3) (n23 : c2 ≠ c3)
    (gt : w'.heap[ct]? = some (.cells #[.map (some c1), .map (some c2), .map (some c3)] 74 (0, 0))) : IsTbl w' ct c1 c2 c3 T := by
  have ht := Touch.of_below (S := fun _ => False) hb
  obtain ⟨f, hf, hr⟩ := h.m1
  obtain ⟨g, hg, hs⟩ := h.m3
  exact ⟨n12, n13, n23, gt, ⟨f, hf.as h1 g1, hr.keep ht (mapsNone _)⟩, h.m2.as h2 g2, ⟨g, hg.as h3 g3, hs.keep ht (mapsNone _)⟩⟩

theorem mcloneB1 {W w : World} {b : Nat} {es : Array MapEntry} {clock : Nat} (hB : Below W.heap.size W w) (hb : W.heap[b]? = some (.map es clock)) (hlt : b < W.heap.size) :
    Calls Tryz.prog 39 #[.map (some b)] w fun e w' => ∃ c, e = .returned (.map (some c)) ∧ Below W.heap.size W w' ∧ Below w.heap.size w w' ∧ w.heap.size ≤ c ∧ w'.heap[c]? = some (.map es clock) := by
  refine (mclone1 b es clock w (below_heap hB hb hlt)).mono ?_
  rintro e w' ⟨rfl, rfl⟩
  exact ⟨_, rfl, hB.alloc hB.size _, (Below.refl _ _).alloc (Nat.le_refl _) _, Nat.le_refl _, heap_new w _⟩
theorem mcloneB2 {W w : World} {b : Nat} {es : Array MapEntry} {clock : Nat} (hB : Below W.heap.size W w) (hb : W.heap[b]? = some (.map es clock)) (hlt : b < W.heap.size) :
    Calls Tryz.prog 40 #[.map (some b)] w fun e w' => ∃ c, e = .returned (.map (some c)) ∧ Below W.heap.size W w' ∧ Below w.heap.size w w' ∧ w.heap.size ≤ c ∧ w'.heap[c]? = some (.map es clock) := by
  refine (mclone2 b es clock w (below_heap hB hb hlt)).mono ?_
  rintro e w' ⟨rfl, rfl⟩
  exact ⟨_, rfl, hB.alloc hB.size _, (Below.refl _ _).alloc (Nat.le_refl _) _, Nat.le_refl _, heap_new w _⟩
theorem mcloneB3 {W w : World} {b : Nat} {es : Array MapEntry} {clock : Nat} (hB : Below W.heap.size W w) (hb : W.heap[b]? = some (.map es clock)) (hlt : b < W.heap.size) :
    Calls Tryz.prog 41 #[.map (some b)] w fun e w' => ∃ c, e = .returned (.map (some c)) ∧ Below W.heap.size W w' ∧ Below w.heap.size w w' ∧ w.heap.size ≤ c ∧ w'.heap[c]? = some (.map es clock) := by
  refine (mclone3 b es clock w (below_heap hB hb hlt)).mono ?_
  rintro e w' ⟨rfl, rfl⟩
  exact ⟨_, rfl, hB.alloc hB.size _, (Below.refl _ _).alloc (Nat.le_refl _) _, Nat.le_refl _, heap_new w _⟩

set_option maxHeartbeats 2000000 in
theorem tcopy_any (bt b1 b2 b3 : Nat) (T : Tbl) (w : World) (h : IsTbl w bt b1 b2 b3 T) :
    Calls Tryz.prog 22 #[.pointer (some ⟨bt, 0, none⟩)] w fun e w' => ∃ ct c1 c2 c3, e = .returned (.tuple #[.pointer (some ⟨ct, 0, none⟩), .int .i64 0]) ∧ Below w.heap.size w w' ∧ IsTbl w' ct c1 c2 c3 T ∧
      w.heap.size ≤ ct ∧ w.heap.size ≤ c1 ∧ w.heap.size ≤ c2 ∧ w.heap.size ≤ c3 := by
  obtain ⟨f0, f1, f2⟩ := h.field
  obtain ⟨e1, k1, e2, k2, e3, k3, h1, h2, h3⟩ := clones h
  have H1 := Lib.hid h1
  have H2 := Lib.hid h2
  have H3 := Lib.hid h3
  have HH := Lib.hid h
  clear h h1 h2 h3
  go_enter Tryz.func22, Tryz.ntmps22
  go_wp2_with (first
    | (go_at_call 32; refine (there_ok bt b1 b2 b3 T _ HH.out).mono ?_; rintro e w' ⟨rfl, rfl⟩)
    | fail)
  have HBd := Lib.hid ((Below.refl w.heap.size w).drew)
  go_region_held3 (fun w' => w'.cell? ⟨bt, 0, none⟩ = some (.map (some b1)) ∧ w'.cell? ⟨bt, 1, none⟩ = some (.map (some b2)) ∧ w'.cell? ⟨bt, 2, none⟩ = some (.map (some b3))) (refine ⟨?_, ?_, ?_⟩ <;> (first | assumption | exact cell_later ((Below.refl _ _).alloc (Nat.le_refl _) _) (by assumption))) (first
    | (go_at_call 39; refine (mcloneB1 HBd.out H1.out (lt_of_heap H1.out)).mono ?_; rintro e w1 ⟨c1, rfl, hB1, hb1, hc1, hg1⟩; have g0 := cell_later hb1 f0; have g1 := cell_later hb1 f1; have g2 := cell_later hb1 f2)
    | (go_at_call 40; refine (mcloneB2 hB1 H2.out (lt_of_heap H2.out)).mono ?_; rintro e w2 ⟨c2, rfl, hB2, hb2, hc2, hg2⟩; have p0 := cell_later hb2 g0; have p1 := cell_later hb2 g1; have p2 := cell_later hb2 g2)
    | (go_at_call 41; refine (mcloneB3 hB2 H3.out (lt_of_heap H3.out)).mono ?_; rintro e w3 ⟨c3, rfl, hB3, hb3, hc3, hg3⟩; have q0 := cell_later hb3 p0; have q1 := cell_later hb3 p1; have q2 := cell_later hb3 p2)
    | fail)
  have s1 := lt_of_heap hg1
  have s2 := lt_of_heap hg2
  have s3 := lt_of_heap hg3
  have z0 : w.drew.heap.size = w.heap.size := by simp
  have hg1' := below_heap hb3 (below_heap hb2 hg1 s1) (Nat.lt_of_lt_of_le s1 hb2.size)
  have hg2' := below_heap hb3 hg2 s2
  have al : ∀ {k : Nat} {o : Obj} (o' : Obj), w3.heap[k]? = some o → (w3.alloc o').heap[k]? = some o := fun o' h => below_heap ((Below.refl _ _).alloc (Nat.le_refl _) _) h (lt_of_heap h)
  have E := copy_end HH.out (hB3.alloc hB3.size (.cells #[.map (some c1), .map (some c2), .map (some c3)] 74)) H1.out H2.out H3.out (al _ hg1') (al _ hg2') (al _ hg3) (by omega) (by omega) (by omega) (heap_new w3 _)
  have F := hB3.alloc hB3.size (.cells #[.map (some c1), .map (some c2), .map (some c3)] 74)
  have G : w.heap.size ≤ w3.heap.size ∧ w.heap.size ≤ c1 ∧ w.heap.size ≤ c2 ∧ w.heap.size ≤ c3 := ⟨hB3.size, by omega, by have := hB1.size; omega, by have := hB2.size; omega⟩
  clear hB1 hB2 hB3 hb1 hb2 hb3 hc1 hc2 hc3 hg1 hg2 hg3 s1 s2 s3 z0 hg1' hg2' al
  go_wp2_with fail
  go_ret2
  exact ⟨_, c1, c2, c3, rfl, F, E, G⟩

end Go.Proofs.YthadgnaaipdpaaaGreatDoor
