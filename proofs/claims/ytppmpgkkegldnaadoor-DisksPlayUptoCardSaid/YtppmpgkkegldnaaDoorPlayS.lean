/- The state of a play on a disk; no program in sight but the types. -/
import Derived.Test.YtppmpgkkegldnaaDoorPlayD
namespace Go.Proofs.YtppmpgkkegldnaaDoor
open Go.RowKit
set_option linter.unusedVariables false
set_option linter.unusedSimpArgs false
set_option maxRecDepth 100000

/-! ### which blocks an operation touches, by their types -/
theorem IsDisk.ne {w : World} {bd bl : Nat} {D : Dsk} (h : IsDisk w bd bl D) {k : Nat} {cur : Array Value} {t : TypeId} {fz : Nat × Nat} (hk : w.heap[k]? = some (.cells cur t fz)) (h1 : t ≠ 59) (h2 : t ≠ 65) : ¬ (k = bd ∨ k = bl) := by
  rintro (e | e)
  · rw [e, h.cells] at hk
    exact h1 (Obj.cells.inj (Option.some.inj hk)).2.1.symm
  · rw [e, h.row] at hk
    exact h2 (Obj.cells.inj (Option.some.inj hk)).2.1.symm
theorem IsRef.ne {w : World} {B rd rl rc : Nat} {R : Dsk} (h : IsRef w B rd rl rc R) {k : Nat} {cur : Array Value} {t : TypeId} {fz : Nat × Nat} (hk : w.heap[k]? = some (.cells cur t fz)) (h1 : t ≠ 62) (h2 : t ≠ 42) : ¬ (k = rd ∨ k = rl) := by
  obtain ⟨gs, g1, g2, g3, g4⟩ := h.row
  rintro (e | e)
  · rw [e, h.cells] at hk
    exact h1 (Obj.cells.inj (Option.some.inj hk)).2.1.symm
  · obtain ⟨cur2, hc⟩ := owns_block g2 (k := rl) rfl
    rw [e, hc] at hk
    exact h2 (Obj.cells.inj (Option.some.inj hk)).2.1.symm
theorem bkS_ne {w : World} {B k : Nat} {cur : Array Value} {t : TypeId} {fz : Nat × Nat} (hk : w.heap[k]? = some (.cells cur t fz)) (h1 : t ≠ 68) (h2 : t ≠ 41) : ¬ BkS w B k := by
  rintro ⟨_, cur2, t2, fz2, hc, ht⟩
  rw [hk] at hc
  have e := (Obj.cells.inj (Option.some.inj hc)).2.1
  subst e
  rcases ht with ht | ht
  · exact h1 ht
  · exact h2 ht

/-! ### the twin, and the act's box -/
def Tw (w : World) (g : Nat) (l : List UInt8) : Prop := w.heap[g]? = some (.cells (bcells l ++ [Value.int .u8 77]).toArray 5 (0, 0))
def Bx (w : World) (hx : Nat) (x : ActD) (ai : Option Addr) (ni ci : Nat) : Prop := w.heap[hx]? = some (.cells #[.int .u8 x.kind.toNat, .int .i64 x.n, .slice ai ni ci] 44 (0, 0))
theorem Tw.of {w : World} {B g n : Nat} {l : List UInt8} (h : w.ownsRow B 5 1 (.slice (some ⟨g, 0, none⟩) (n + 1) (n + 1)) (n + 1) (bcells l ++ [.int .u8 77])) : Tw w g l ∧ B ≤ g := row_of_owns h
theorem Tw.twin {w : World} {g : Nat} {l : List UInt8} (h : Tw w g l) : IsTwin w g l := by
  refine ⟨lt_of_heap h, fun i hi => ?_, ?_⟩
  · rw [cell_of_block h, List.getElem?_toArray, List.getElem?_append_left (by rw [bcells_length]; exact hi)]
    exact bcells_get l i hi
  · rw [cell_of_block h, List.getElem?_toArray, List.getElem?_append_right (by rw [bcells_length]; exact Nat.le_refl _), bcells_length, Nat.sub_self]; rfl
theorem Tw.hok {w : World} {B g : Nat} {l : List UInt8} (h : Tw w g l) (hB : B ≤ g) (hm : l.length < maxLen) : HOk w B ⟨some ⟨g, 0, none⟩, l.length, l.length + 1⟩ :=
  ⟨_, .inr ⟨g, rfl, h, by dsimp only; omega, by rw [List.length_append, bcells_length]; exact Nat.le_refl _, by dsimp only; omega⟩, fun g' e => by cases e; exact hB⟩
theorem hok_read {w : World} {B g : Nat} {l : List UInt8} (h : RowB w g l) (hl : l.length = 64) (hB : B ≤ g) : HOk w B ⟨some ⟨g, 0, none⟩, 64, 64⟩ :=
  ⟨_, .inr ⟨g, rfl, h, Nat.le_refl _, by rw [bcells_length, hl]; exact Nat.le_refl _, (by decide : 64 ≤ maxLen)⟩, fun g' e => by cases e; exact hB⟩
theorem hok_nil (w : World) (B : Nat) : HOk w B ⟨none, 0, 0⟩ := ⟨[], .inl ⟨rfl, rfl, rfl, rfl⟩, fun g e => by cases e⟩
theorem Bk.old {w : World} {B bk N : Nat} {bs : Value} {H : List Hl} (h : Bk w B bk N bs H) (g : Nat) (hg : w.heap.size ≤ g) (n c : Nat) : ∀ i (hi : i < H.length), ∀ g', H[i].l.a = some ⟨g', 0, none⟩ → (Hd.mk (some ⟨g, 0, none⟩) n c).a ≠ some ⟨g', 0, none⟩ := fun i hi g' e e2 => by
  obtain ⟨cur, s, _⟩ := h.ok i hi
  rcases s with ⟨s, _⟩ | ⟨g2, s, hc, _⟩
  · rw [s] at e; cases e
  · rw [s] at e; cases e
    have := lt_of_heap hc
    cases e2
    omega

/-! ### the disk and the document's disk -/
def Same (D R : Dsk) : Prop := R.secs = D.secs ∧ R.blown = D.blown ∧ R.writes = D.writes ∧ (R.left = D.left ∨ (R.left < 0 ∧ D.left < 0))
theorem Same.read {D R : Dsk} (h : Same D R) (n : Int) : R.read n = D.read n := by unfold Dsk.read; rw [h.1]
theorem Same.write {D R : Dsk} (h : Same D R) (n : Int) (b : List UInt8) : (R.write n b).1 = (D.write n b).1 ∧ Same (D.write n b).2 (R.write n b).2 := by
  obtain ⟨h1, h2, h3, h4⟩ := h
  have h0 : (R.left = 0) ↔ (D.left = 0) := by omega
  unfold Dsk.write
  rw [h1, h2]
  split
  · exact ⟨rfl, h1, h2, h3, h4⟩
  · simp only [h0]
    split
    · exact ⟨rfl, rfl, rfl, h3, h4⟩
    · refine ⟨rfl, rfl, rfl, by dsimp only; rw [h3], ?_⟩
      dsimp only
      split <;> split <;> omega
theorem Same.fuse {D R : Dsk} (h : Same D R) (n : Int) : Same { D with left := n } { R with left := max (-1) n } := ⟨h.1, h.2.1, h.2.2.1, by dsimp only; omega⟩
theorem Dsk.write_cnt (D : Dsk) (n : Int) (b : List UInt8) : D.writes ≤ (D.write n b).2.writes ∧ (D.write n b).2.writes ≤ D.writes + 1 ∧ (D.write n b).2.left ≤ max D.left (-1) := by
  unfold Dsk.write
  split
  · exact ⟨Int.le_refl _, by dsimp only; omega, by dsimp only; omega⟩
  · split
    · exact ⟨Int.le_refl _, by dsimp only; omega, by dsimp only; omega⟩
    · refine ⟨by dsimp only; omega, by dsimp only; omega, ?_⟩
      dsimp only
      split <;> omega

/-- The state of a play, from the world W on. -/
structure PSt (W w : World) (bd bl rd rl rc bk N : Nat) (bs : Value) (D R : Dsk) (H : List Hl) : Prop where
  below : Below W.heap.size W w
  disk : IsDisk w bd bl D
  dge : W.heap.size ≤ bd ∧ W.heap.size ≤ bl
  ref : IsRef w W.heap.size rd rl rc R
  book : Bk w W.heap.size bk N bs H
  same : Same D R
  left : D.left ≤ 9223372036854775807 ∧ R.left ≤ 9223372036854775807
  small : ∀ i (hi : i < H.length), H[i].l.n ≤ 100000000
theorem PSt.after {W w w' : World} {bd bl rd rl rc bk N : Nat} {bs : Value} {D R : Dsk} {H : List Hl} (h : PSt W w bd bl rd rl rc bk N bs D R H) (hb : Below w.heap.size w w') : PSt W w' bd bl rd rl rc bk N bs D R H :=
  ⟨h.below.trans (hb.mono h.below.size), h.disk.touch (Touch.of_below (S := fun _ => False) hb) id id, h.dge, h.ref.below hb, h.book.below hb, h.same, h.left, h.small⟩
theorem noRef_disk {w : World} {bd bl : Nat} {D : Dsk} (h : IsDisk w bd bl D) : NoRef w (fun k => k = bd ∨ k = bl) := fun k hk cur t fz hc => by
  refine ⟨fun e => h.ne (k := k) hc (by rw [e]; decide) (by rw [e]; decide) hk, fun e => h.ne (k := k) hc (by rw [e]; decide) (by rw [e]; decide) hk, fun e => h.ne (k := k) hc (by rw [e]; decide) (by rw [e]; decide) hk⟩
theorem other_disk {w : World} {bd bl : Nat} {D : Dsk} (h : IsDisk w bd bl D) : Other w (fun k => k = bd ∨ k = bl) := fun k hk cur t fz hc => by
  refine ⟨fun e => h.ne (k := k) hc (by rw [e]; decide) (by rw [e]; decide) hk, fun e => h.ne (k := k) hc (by rw [e]; decide) (by rw [e]; decide) hk, fun e => h.ne (k := k) hc (by rw [e]; decide) (by rw [e]; decide) hk⟩
theorem other_ref {w : World} {B rd rl rc : Nat} {R : Dsk} (h : IsRef w B rd rl rc R) : Other w (fun k => k = rd ∨ k = rl) := fun k hk cur t fz hc => by
  refine ⟨fun e => h.ne (k := k) hc (by rw [e]; decide) (by rw [e]; decide) hk, fun e => h.ne (k := k) hc (by rw [e]; decide) (by rw [e]; decide) hk, fun e => h.ne (k := k) hc (by rw [e]; decide) (by rw [e]; decide) hk⟩
theorem noRef_book {w : World} {B : Nat} : NoRef w (BkS w B) := fun k hk cur t fz hc => by
  refine ⟨fun e => bkS_ne hc (by rw [e]; decide) (by rw [e]; decide) hk, fun e => bkS_ne hc (by rw [e]; decide) (by rw [e]; decide) hk, fun e => bkS_ne hc (by rw [e]; decide) (by rw [e]; decide) hk⟩

/-- Both disks are done something with. -/
theorem PSt.both {W w w1 w2 : World} {bd bl rd rl rc bk N : Nat} {bs : Value} {D R D' R' : Dsk} {H : List Hl} (h : PSt W w bd bl rd rl rc bk N bs D R H) (h1 : Touch (fun k => k = bd ∨ k = bl) w w1) (hd : IsDisk w1 bd bl D')
    (h2 : Touch (fun k => k = rd ∨ k = rl) w1 w2) (hr : IsRef w2 W.heap.size rd rl rc R') (hs : Same D' R') (hl : D'.left ≤ 9223372036854775807 ∧ R'.left ≤ 9223372036854775807) : PSt W w2 bd bl rd rl rc bk N bs D' R' H := by
  have hr1 := h.ref.touch h1 (noRef_disk h.disk)
  have hb1 := h.book.touch h1 (other_disk h.disk)
  have hbw1 : Below W.heap.size W w1 := h.below.trans (h1.below h.below.size (fun k hk e => by have := h.dge; omega))
  have hrl := hr1.lt
  refine ⟨hbw1.trans (h2.below hbw1.size (fun k hk e => by have := hr1.le; omega)), hd.touch h2 ?_ ?_, h.dge, hr, hb1.touch h2 (other_ref hr1), hs, hl, h.small⟩
  · exact hr1.ne hd.cells (by decide) (by decide)
  · exact hr1.ne hd.row (by decide) (by decide)
/-- A list is told to the book. -/
theorem PSt.kept {W w w' : World} {bd bl rd rl rc bk N : Nat} {bs bs' : Value} {D R : Dsk} {H : List Hl} (h : PSt W w bd bl rd rl rc bk N bs D R H) {x : Hd} (ht : Touch (BkS w W.heap.size) w w') (hk : Bk w' W.heap.size bk (N + 1) bs' (H ++ [⟨x, ⟨none, 0, 0⟩, N + 1⟩])) (hx : x.n ≤ 100000000) :
    PSt W w' bd bl rd rl rc bk (N + 1) bs' D R (H ++ [⟨x, ⟨none, 0, 0⟩, N + 1⟩]) := by
  refine ⟨h.below.trans (ht.below h.below.size (fun k hk e => by have := e.1; omega)), h.disk.touch ht (bkS_ne h.disk.cells (by decide) (by decide)) (bkS_ne h.disk.row (by decide) (by decide)), h.dge, h.ref.touch ht noRef_book, hk, h.same, h.left, fun i hi => ?_⟩
  · by_cases hil : i < H.length
    · rw [List.getElem_append_left hil]; exact h.small i hil
    · have : i = H.length := by simp at hi; omega
      subst this
      simpa using hx

theorem IsRef.lower {w : World} {B B' rd rl rc : Nat} {R : Dsk} (h : IsRef w B rd rl rc R) (hB : B' ≤ B) : IsRef w B' rd rl rc R := by
  obtain ⟨gs, g1, g2, g3, g4⟩ := h.row
  refine ⟨Nat.le_trans hB h.le, h.pos, h.most, h.secs, h.cells, gs, g1, ⟨g2.1, ?_⟩, fun i hi hi' => ⟨(g3 i hi hi').1, Nat.le_trans hB (g3 i hi hi').2⟩, g4⟩
  rcases g2.2 with h0 | ⟨g, cap, cur, hv, hb, h3⟩
  · exact .inl h0
  · exact .inr ⟨g, cap, cur, hv, Nat.le_trans hB hb, h3⟩
theorem PSt.start {W w1 w2 : World} {bd bl rd rl rc n : Nat} (hb1 : Below W.heap.size W w1) (g1 : W.heap.size ≤ bd) (g2 : W.heap.size ≤ bl) (hd : IsDisk w1 bd bl ⟨List.replicate n zsec, -1, false, 0⟩) (hb2 : Below w1.heap.size w1 w2)
    (hr : IsRef w2 w1.heap.size rd rl rc ⟨List.replicate n zsec, -1, false, 0⟩) :
    PSt W (w2.alloc (.cells (bookC 0 (.slice none 0 0)) 41)) bd bl rd rl rc w2.heap.size 0 (.slice none 0 0) ⟨List.replicate n zsec, -1, false, 0⟩ ⟨List.replicate n zsec, -1, false, 0⟩ [] := by
  have hb3 : Below w2.heap.size w2 (w2.alloc (.cells (bookC 0 (.slice none 0 0)) 41)) := (Below.refl _ _).alloc (Nat.le_refl _) _
  have hW2 : W.heap.size ≤ w2.heap.size := Nat.le_trans hb1.size hb2.size
  refine ⟨(hb1.trans (hb2.mono hb1.size)).trans (hb3.mono hW2), (hd.touch (Touch.of_below (S := fun _ => False) hb2) id id).touch (Touch.of_below (S := fun _ => False) hb3) id id, ⟨g1, g2⟩, (hr.below hb3).lower hb1.size,
    ⟨hW2, heap_new _ _, World.ownsRow_nil _ _ _ _, fun i hi => by simp at hi, fun i j hi => by simp at hi, fun i hi => by simp at hi, by simp⟩, ⟨rfl, rfl, rfl, .inl rfl⟩, ⟨by dsimp only; omega, by dsimp only; omega⟩, fun i hi => by simp at hi⟩

end Go.Proofs.YtppmpgkkegldnaaDoor
