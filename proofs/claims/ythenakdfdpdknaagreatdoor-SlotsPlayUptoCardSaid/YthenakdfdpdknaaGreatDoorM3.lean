/- The statements' helper TwinBytes; no condition but those typed. -/
import Derived.Test.YthenakdfdpdknaaGreatDoorM2
import Derived.RangeFuncBox
import Derived.RangeFuncLeaves
import Derived.Shelf.Abstract
import Derived.OwnWalkIn
import Derived.TacticsInMore
import Derived.LoopNIn
import Derived.LoopIn
import Derived.Laws.BitsAllLaws
import Derived.Laws.BytesArg
import Derived.Laws.IdiomStrings
import Derived.Deep.RegionHeld3
import Derived.RangeFuncWrites
import Derived.Deep.MidRow
import Derived.Lib.AppendZerosOnto
namespace Go.Proofs.YthenakdfdpdknaaGreatDoor
open Go.RowKit Go.ChangeShapes Go.WideShapes Go.ChangeAt
set_option linter.unusedVariables false

theorem info5 : (Tryz.prog.info? 5).map (fun i => (i.zero, i.size, i.bytes)) = some (some (.int .u8 0), 1, 1) := by kernel_rfl

set_option maxHeartbeats 1000000 in
theorem twin_some (b off cap : Nat) (l : List UInt8) (w : World) (hlen : l.length ≤ 140737488351232) (hb : b < w.heap.size)
    (hc : ∀ i (h : i < l.length), w.cell? ⟨b, off + i, none⟩ = some (.int .u8 l[i].toNat)) :
    Calls Tryz.prog 9 #[.slice (some ⟨b, off, none⟩) l.length cap] w fun e w' =>
      e = .returned (.slice (some ⟨w.heap.size, 0, none⟩) l.length (l.length + 1)) ∧ Below w.heap.size w w' ∧ w'.ownsRow w.heap.size 5 1 (.slice (some ⟨w.heap.size, 0, none⟩) (l.length + 1) (l.length + 1)) (l.length + 1) (bcells l ++ [.int .u8 77]) := by
  obtain ⟨i0, hi, hz0, hz1, hz2⟩ := info_parts info5
  go_enter Tryz.func9, Tryz.ntmps9
  go_wp2_with (refine wpList_make_own _ rfl _ _ 24 rfl w.heap.size 5 i0 (.int .u8 0) 1 Tryz.underlying24 hi hz0 hz1 .i64 .i64 _ (l.length + 1) rfl rfl (by omega) (by rw [hz2]; omega) (by unfold maxLen; omega) (Nat.le_refl _) ?_; intro w1 hown1 hg1)
  go_loopw [3, 4] (fun v i wr => ∃ k : Nat, k ≤ l.length ∧ i = .int .i64 k ∧ v = .slice (some ⟨w.heap.size, 0, none⟩) k (l.length + 1) ∧ wr.ownsRow w.heap.size 5 1 v k (bcells (l.take k)) ∧ Below w.heap.size w wr) (fun _ i _ => l.length - (intOf i).toNat)
  case atStart => exact ⟨0, Nat.zero_le _, rfl, rfl, hown1, (Below.refl _ _).grown hg1 (Nat.le_refl _) (by simp)⟩
  case round =>
    obtain ⟨k, hk, rfl, rfl, hown, hbel⟩ := hrel
    have hsz := hbel.size
    by_cases hlt : k < l.length
    · have hcell := (hbel.cell (p := ⟨b, off + k, none⟩) hb).trans (hc k hlt)
      have hsn := bcells_snoc l k hlt
      have H : Hid _ := Lib.hid hsn
      clear hsn hc
      go_wp2_with (at_builtin; refine wpList_append_fits _ rfl _ _ 24 rfl w.heap.size 5 i0 1 Tryz.underlying24 hi hz1 w.heap.size k (l.length + 1) _ rfl (hown.alloc _) ⟨wr.heap.size, 0, none⟩ 1 1 [.int .u8 l[k].toNat] rfl rfl (one_at _ _ _) (one_cell _ rfl) (by omega) ?_; intro w2 hown2 hg2)
      go_roundw
      case rel => exact ⟨k + 1, by omega, by go_num, rfl, by rw [H.out]; exact hown2, (hbel.alloc hsz _).grown hg2 (by simp; omega) (by simp)⟩
      case measure => simp [intOf]; omega
    · have hkk : k = l.length := by omega
      subst hkk
      go_wp2_with (at_builtin; refine wpList_append_fits _ rfl _ _ 24 rfl w.heap.size 5 i0 1 Tryz.underlying24 hi hz1 w.heap.size l.length (l.length + 1) _ rfl (hown.alloc _) ⟨wr.heap.size, 0, none⟩ 1 1 [.int .u8 77] rfl rfl (one_at _ _ _) (one_cell _ rfl) (by omega) ?_; intro w2 hown2 hg2)
      go_ret
      refine ⟨rfl, (hbel.alloc hsz _).grown hg2 (by simp; omega) (by simp), ?_⟩
      simpa using hown2

set_option maxHeartbeats 1000000 in
theorem twin_nil (a : Option Addr) (c : Nat) (w : World) :
    Calls Tryz.prog 9 #[.slice a 0 c] w fun e w' =>
      e = .returned (.slice (some ⟨w.heap.size, 0, none⟩) 0 1) ∧ Below w.heap.size w w' ∧ w'.ownsRow w.heap.size 5 1 (.slice (some ⟨w.heap.size, 0, none⟩) 1 1) 1 [.int .u8 77] := by
  obtain ⟨i0, hi, hz0, hz1, hz2⟩ := info_parts info5
  go_enter Tryz.func9, Tryz.ntmps9
  go_wp2_with (refine wpList_make_own _ rfl _ _ 24 rfl w.heap.size 5 i0 (.int .u8 0) 1 Tryz.underlying24 hi hz0 hz1 .i64 .i64 _ 1 rfl rfl (by omega) (by rw [hz2]; omega) (by unfold maxLen; omega) (Nat.le_refl _) ?_; intro w1 hown1 hg1)
  go_loopw [3, 4] (fun v i wr => i = .int .i64 0 ∧ v = .slice (some ⟨w.heap.size, 0, none⟩) 0 1 ∧ wr.ownsRow w.heap.size 5 1 v 0 [] ∧ Below w.heap.size w wr) (fun _ _ _ => 0)
  case atStart => exact ⟨rfl, rfl, hown1, (Below.refl _ _).grown hg1 (Nat.le_refl _) (by simp)⟩
  case round =>
    obtain ⟨rfl, rfl, hown, hbel⟩ := hrel
    have hsz := hbel.size
    go_wp2_with (at_builtin; refine wpList_append_fits _ rfl _ _ 24 rfl w.heap.size 5 i0 1 Tryz.underlying24 hi hz1 w.heap.size 0 1 _ rfl (hown.alloc _) ⟨wr.heap.size, 0, none⟩ 1 1 [.int .u8 77] rfl rfl (one_at _ _ _) (one_cell _ rfl) (by omega) ?_; intro w2 hown2 hg2)
    go_ret
    refine ⟨rfl, (hbel.alloc hsz _).grown hg2 (by simp; omega) (by simp), ?_⟩
    simpa using hown2

theorem twin_any (a : Option Addr) (m cap : Nat) (l : List UInt8) (w : World) (hm : l.length ≤ 140737488351232) (h : IsB w a m cap l) :
    Calls Tryz.prog 9 #[.slice a m cap] w fun e w' => e = .returned (.slice (some ⟨w.heap.size, 0, none⟩) m (m + 1)) ∧ Below w.heap.size w w' ∧ w'.ownsRow w.heap.size 5 1 (.slice (some ⟨w.heap.size, 0, none⟩) (m + 1) (m + 1)) (m + 1) (bcells l ++ [.int .u8 77]) := by
  obtain ⟨rfl, h1, h2, ⟨rfl, _⟩ | ⟨b, off, rfl, hb, hc⟩⟩ := h
  · exact twin_nil a cap w
  · exact twin_some b off cap l w hm hb hc

/-- The twin: the same list, one more cell behind it. -/
def IsTwin (w : World) (g : Nat) (l : List UInt8) : Prop :=
  g < w.heap.size ∧ (∀ i (h : i < l.length), w.cell? ⟨g, i, none⟩ = some (.int .u8 l[i].toNat)) ∧ w.cell? ⟨g, l.length, none⟩ = some (.int .u8 77)

theorem IsTwin.of {w : World} {B e g n c : Nat} {l : List UInt8} (h : w.ownsRow B e 1 (.slice (some ⟨g, 0, none⟩) n c) n (bcells l ++ [.int .u8 77])) : IsTwin w g l := by
  have h1 : w.cell? ⟨g, l.length, none⟩ = some (.int .u8 77) := cells_of_owns h _ _ (by simp [bcells])
  refine ⟨(h.lt g rfl).2, fun i hi => cells_of_owns h _ _ ?_, h1⟩
  rw [List.getElem?_append_left (by simpa [bcells] using hi)]
  simp [bcells, hi]

theorem IsTwin.isB {w : World} {g : Nat} {l : List UInt8} (h : IsTwin w g l) (hm : l.length < maxLen) : IsB w (some ⟨g, 0, none⟩) l.length (l.length + 1) l :=
  ⟨rfl, by omega, by omega, .inr ⟨g, 0, rfl, h.1, by simpa using h.2.1⟩⟩

theorem IsTwin.below {w w' : World} {g : Nat} {l : List UInt8} (h : IsTwin w g l) (hb : Below w.heap.size w w') : IsTwin w' g l :=
  ⟨Nat.lt_of_lt_of_le h.1 hb.size, fun i hi => (hb.cell (p := ⟨g, i, none⟩) h.1).trans (h.2.1 i hi), (hb.cell (p := ⟨g, _, none⟩) h.1).trans h.2.2⟩

end Go.Proofs.YthenakdfdpdknaaGreatDoor

/- The statements' helper LeftBytes; no condition but those typed. -/
namespace Go.Proofs.YthenakdfdpdknaaGreatDoor
open Go.RowKit Go.ChangeShapes Go.WideShapes Go.ChangeAt
set_option linter.unusedVariables false

set_option maxHeartbeats 1000000 in
theorem left_some (g b off cap : Nat) (l : List UInt8) (w : World) (hlen : l.length ≤ 140737488351232)
    (hg : ∀ i (h : i < l.length), w.cell? ⟨g, i, none⟩ = some (.int .u8 l[i].toNat)) (h77 : w.cell? ⟨g, l.length, none⟩ = some (.int .u8 77))
    (hc : ∀ i (h : i < l.length), w.cell? ⟨b, off + i, none⟩ = some (.int .u8 l[i].toNat)) :
    Calls Tryz.prog 18 #[.slice (some ⟨g, 0, none⟩) l.length (l.length + 1), .slice (some ⟨b, off, none⟩) l.length cap] w fun e w' => e = .returned (.bool true) ∧ Below w.heap.size w w' := by
  go_enter Tryz.func18, Tryz.ntmps18
  go_wp2
  go_loopw [5] (fun i wr => ∃ k n : Nat, k ≤ l.length ∧ i = .int .i64 k ∧ wr = w.drewN n) (fun i _ => l.length - (intOf i).toNat)
  case atStart => exact ⟨0, 0, Nat.zero_le _, rfl, rfl⟩
  case round =>
    obtain ⟨k, n, hk, rfl, rfl⟩ := hrel
    by_cases hlt : k < l.length
    · have h1 := hg k hlt
      have h2 := hc k hlt
      clear hg hc h77
      go_wp2
      go_quiet (fail)
      go_wp2
      go_roundw
      case rel => exact ⟨k + 1, _, by omega, by go_num, rfl⟩
      case measure => simp [intOf]; omega
    · have hkk : k = l.length := by omega
      subst hkk
      clear hg hc
      go_wp2
      go_ret
      exact ⟨rfl, below_drewN (Below.refl _ _) _⟩

set_option maxHeartbeats 1000000 in
theorem left_nil (a : Option Addr) (c g : Nat) (w : World) (h77 : w.cell? ⟨g, 0, none⟩ = some (.int .u8 77)) :
    Calls Tryz.prog 18 #[.slice (some ⟨g, 0, none⟩) 0 1, .slice a 0 c] w fun e w' => e = .returned (.bool true) ∧ Below w.heap.size w w' := by
  go_enter Tryz.func18, Tryz.ntmps18
  go_wp2
  go_loopw [5] (fun i wr => i = .int .i64 0 ∧ wr = w) (fun _ _ => 0)
  case atStart => exact ⟨rfl, rfl⟩
  case round =>
    obtain ⟨rfl, rfl⟩ := hrel
    go_wp2
    go_ret
    exact ⟨rfl, Below.refl _ _⟩

theorem left_any (g : Nat) (a : Option Addr) (m cap : Nat) (l : List UInt8) (w : World) (hm : l.length ≤ 140737488351232) (h : IsB w a m cap l) (ht : IsTwin w g l) :
    Calls Tryz.prog 18 #[.slice (some ⟨g, 0, none⟩) m (m + 1), .slice a m cap] w fun e w' => e = .returned (.bool true) ∧ Below w.heap.size w w' := by
  obtain ⟨rfl, h1, h2, ⟨rfl, _⟩ | ⟨b, off, rfl, hb, hc⟩⟩ := h
  · exact left_nil a cap g w ht.2.2
  · exact left_some g b off cap l w hm ht.2.1 ht.2.2 hc

end Go.Proofs.YthenakdfdpdknaaGreatDoor

/- What the plays on a disk stand on: the imports alone. -/

/- The state of a play on a disk; no program in sight but the types. -/
namespace Go.Proofs.YthenakdfdpdknaaGreatDoor
open Go.RowKit
set_option linter.unusedVariables false
set_option linter.unusedSimpArgs false
set_option maxRecDepth 100000

/-! ### which blocks an operation touches, by their types -/
theorem IsDisk.ne {w : World} {bd bl : Nat} {D : Dsk} (h : IsDisk w bd bl D) {k : Nat} {cur : Array Value} {t : TypeId} {fz : Nat × Nat} (hk : w.heap[k]? = some (.cells cur t fz)) (h1 : t ≠ 62) (h2 : t ≠ 68) : ¬ (k = bd ∨ k = bl) := by
  rintro (e | e)
  · rw [e, h.cells] at hk
    exact h1 (Obj.cells.inj (Option.some.inj hk)).2.1.symm
  · rw [e, h.row] at hk
    exact h2 (Obj.cells.inj (Option.some.inj hk)).2.1.symm
theorem IsRef.ne {w : World} {B rd rl rc : Nat} {R : Dsk} (h : IsRef w B rd rl rc R) {k : Nat} {cur : Array Value} {t : TypeId} {fz : Nat × Nat} (hk : w.heap[k]? = some (.cells cur t fz)) (h1 : t ≠ 65) (h2 : t ≠ 24) : ¬ (k = rd ∨ k = rl) := by
  obtain ⟨gs, g1, g2, g3, g4⟩ := h.row
  rintro (e | e)
  · rw [e, h.cells] at hk
    exact h1 (Obj.cells.inj (Option.some.inj hk)).2.1.symm
  · obtain ⟨cur2, hc⟩ := owns_block g2 (k := rl) rfl
    rw [e, hc] at hk
    exact h2 (Obj.cells.inj (Option.some.inj hk)).2.1.symm
theorem bkS_ne {w : World} {B k : Nat} {cur : Array Value} {t : TypeId} {fz : Nat × Nat} (hk : w.heap[k]? = some (.cells cur t fz)) (h1 : t ≠ 90) (h2 : t ≠ 46) : ¬ BkS w B k := by
  rintro ⟨_, cur2, t2, fz2, hc, ht⟩
  rw [hk] at hc
  have e := (Obj.cells.inj (Option.some.inj hc)).2.1
  subst e
  rcases ht with ht | ht
  · exact h1 ht
  · exact h2 ht

/-! ### the twin -/
def Tw (w : World) (g : Nat) (l : List UInt8) : Prop := w.heap[g]? = some (.cells (bcells l ++ [Value.int .u8 77]).toArray 5 (0, 0))
theorem Tw.of {w : World} {B g n : Nat} {l : List UInt8} (h : w.ownsRow B 5 1 (.slice (some ⟨g, 0, none⟩) (n + 1) (n + 1)) (n + 1) (bcells l ++ [.int .u8 77])) : Tw w g l ∧ B ≤ g := row_of_owns h
theorem Tw.twin {w : World} {g : Nat} {l : List UInt8} (h : Tw w g l) : IsTwin w g l := by
  refine ⟨lt_of_heap h, fun i hi => ?_, ?_⟩
  · rw [cell_of_block h, List.getElem?_toArray, List.getElem?_append_left (by rw [bcells_length]; exact hi)]
    exact bcells_get l i hi
  · rw [cell_of_block h, List.getElem?_toArray, List.getElem?_append_right (by rw [bcells_length]; exact Nat.le_refl _), bcells_length, Nat.sub_self]; rfl
theorem Tw.hok {w : World} {B g : Nat} {l : List UInt8} (h : Tw w g l) (hB : B ≤ g) (hm : l.length < maxLen) : HOk w B ⟨some ⟨g, 0, none⟩, l.length, l.length + 1⟩ :=
  ⟨_, .inr ⟨g, rfl, h, by dsimp only; omega, by rw [List.length_append, bcells_length]; exact Nat.le_refl _, by dsimp only; omega⟩, fun g' e => by cases e; exact hB⟩
theorem hok_read {w : World} {B g : Nat} {l : List UInt8} (h : RowB w g l) (hl : l.length = 64) (hB : B ≤ g) : HOk w B ⟨some ⟨g, 0, none⟩, 64, 64⟩ :=
  ⟨_, .inr ⟨g, rfl, h, Nat.le_refl _, by rw [bcells_length, hl]; exact Nat.le_refl _, (by decide : 64 ≤ maxLen)⟩, fun g' e => by cases e; exact hB⟩
theorem hok_nil (w : World) (B : Nat) : HOk w B ⟨none, 0, 0⟩ := ⟨[], .inl ⟨rfl, rfl, rfl, rfl⟩, fun g e => by cases e⟩
theorem Bk.old {w : World} {B bk N : Nat} {bs : Value} {H : List Hl} (h : Bk w B bk N bs H) (g : Nat) (hg : w.heap.size ≤ g) (n c : Nat) : ∀ i (hi : i < H.length), ∀ g', H[i].l.a = some ⟨g', 0, none⟩ → (Hd.mk (some ⟨g, 0, none⟩) n c).a ≠ some ⟨g', 0, none⟩ := fun i hi g' e e2 => by
  obtain ⟨cur, s, _⟩ := h.ok i hi
  rcases s with ⟨s, _⟩ | ⟨g2, s, hc, _⟩
  · rw [s] at e; cases e
  · rw [s] at e; cases e
    have := lt_of_heap hc
    cases e2
    omega

/-! ### the disk and the document's disk -/
def Same (D R : Dsk) : Prop := R.secs = D.secs ∧ R.blown = D.blown ∧ R.writes = D.writes ∧ (R.left = D.left ∨ (R.left < 0 ∧ D.left < 0))
theorem Same.read {D R : Dsk} (h : Same D R) (n : Int) : R.read n = D.read n := by unfold Dsk.read; rw [h.1]
theorem Same.write {D R : Dsk} (h : Same D R) (n : Int) (b : List UInt8) : (R.write n b).1 = (D.write n b).1 ∧ Same (D.write n b).2 (R.write n b).2 := by
  obtain ⟨h1, h2, h3, h4⟩ := h
  have h0 : (R.left = 0) ↔ (D.left = 0) := by omega
  unfold Dsk.write
  rw [h1, h2]
  split
  · exact ⟨rfl, h1, h2, h3, h4⟩
  · simp only [h0]
    split
    · exact ⟨rfl, rfl, rfl, h3, h4⟩
    · refine ⟨rfl, rfl, rfl, by dsimp only; rw [h3], ?_⟩
      dsimp only
      split <;> split <;> omega
theorem Same.fuse {D R : Dsk} (h : Same D R) (n : Int) : Same { D with left := n } { R with left := max (-1) n } := ⟨h.1, h.2.1, h.2.2.1, by dsimp only; omega⟩
theorem Dsk.write_cnt (D : Dsk) (n : Int) (b : List UInt8) : D.writes ≤ (D.write n b).2.writes ∧ (D.write n b).2.writes ≤ D.writes + 1 ∧ (D.write n b).2.left ≤ max D.left (-1) := by
  unfold Dsk.write
  split
  · exact ⟨Int.le_refl _, by dsimp only; omega, by dsimp only; omega⟩
  · split
    · exact ⟨Int.le_refl _, by dsimp only; omega, by dsimp only; omega⟩
    · refine ⟨by dsimp only; omega, by dsimp only; omega, ?_⟩
      dsimp only
      split <;> omega

/-- The state of a play, from the world W on. -/
structure PSt (W w : World) (bd bl rd rl rc bk N : Nat) (bs : Value) (D R : Dsk) (H : List Hl) : Prop where
  below : Below W.heap.size W w
  disk : IsDisk w bd bl D
  dge : W.heap.size ≤ bd ∧ W.heap.size ≤ bl
  ref : IsRef w W.heap.size rd rl rc R
  book : Bk w W.heap.size bk N bs H
  same : Same D R
  left : D.left ≤ 9223372036854775807 ∧ R.left ≤ 9223372036854775807
  small : ∀ i (hi : i < H.length), H[i].l.n ≤ 100000000
theorem PSt.after {W w w' : World} {bd bl rd rl rc bk N : Nat} {bs : Value} {D R : Dsk} {H : List Hl} (h : PSt W w bd bl rd rl rc bk N bs D R H) (hb : Below w.heap.size w w') : PSt W w' bd bl rd rl rc bk N bs D R H :=
  ⟨h.below.trans (hb.mono h.below.size), h.disk.touch (Touch.of_below (S := fun _ => False) hb) id id, h.dge, h.ref.below hb, h.book.below hb, h.same, h.left, h.small⟩
theorem noRef_disk {w : World} {bd bl : Nat} {D : Dsk} (h : IsDisk w bd bl D) : NoRef w (fun k => k = bd ∨ k = bl) := fun k hk cur t fz hc => by
  refine ⟨fun e => h.ne (k := k) hc (by rw [e]; decide) (by rw [e]; decide) hk, fun e => h.ne (k := k) hc (by rw [e]; decide) (by rw [e]; decide) hk, fun e => h.ne (k := k) hc (by rw [e]; decide) (by rw [e]; decide) hk⟩
theorem other_disk {w : World} {bd bl : Nat} {D : Dsk} (h : IsDisk w bd bl D) : Other w (fun k => k = bd ∨ k = bl) := fun k hk cur t fz hc => by
  refine ⟨fun e => h.ne (k := k) hc (by rw [e]; decide) (by rw [e]; decide) hk, fun e => h.ne (k := k) hc (by rw [e]; decide) (by rw [e]; decide) hk, fun e => h.ne (k := k) hc (by rw [e]; decide) (by rw [e]; decide) hk⟩
theorem other_ref {w : World} {B rd rl rc : Nat} {R : Dsk} (h : IsRef w B rd rl rc R) : Other w (fun k => k = rd ∨ k = rl) := fun k hk cur t fz hc => by
  refine ⟨fun e => h.ne (k := k) hc (by rw [e]; decide) (by rw [e]; decide) hk, fun e => h.ne (k := k) hc (by rw [e]; decide) (by rw [e]; decide) hk, fun e => h.ne (k := k) hc (by rw [e]; decide) (by rw [e]; decide) hk⟩
theorem noRef_book {w : World} {B : Nat} : NoRef w (BkS w B) := fun k hk cur t fz hc => by
  refine ⟨fun e => bkS_ne hc (by rw [e]; decide) (by rw [e]; decide) hk, fun e => bkS_ne hc (by rw [e]; decide) (by rw [e]; decide) hk, fun e => bkS_ne hc (by rw [e]; decide) (by rw [e]; decide) hk⟩

/-- Both disks are done something with. -/
theorem PSt.both {W w w1 w2 : World} {bd bl rd rl rc bk N : Nat} {bs : Value} {D R D' R' : Dsk} {H : List Hl} (h : PSt W w bd bl rd rl rc bk N bs D R H) (h1 : Touch (fun k => k = bd ∨ k = bl) w w1) (hd : IsDisk w1 bd bl D')
    (h2 : Touch (fun k => k = rd ∨ k = rl) w1 w2) (hr : IsRef w2 W.heap.size rd rl rc R') (hs : Same D' R') (hl : D'.left ≤ 9223372036854775807 ∧ R'.left ≤ 9223372036854775807) : PSt W w2 bd bl rd rl rc bk N bs D' R' H := by
  have hr1 := h.ref.touch h1 (noRef_disk h.disk)
  have hb1 := h.book.touch h1 (other_disk h.disk)
  have hbw1 : Below W.heap.size W w1 := h.below.trans (h1.below h.below.size (fun k hk e => by have := h.dge; omega))
  have hrl := hr1.lt
  refine ⟨hbw1.trans (h2.below hbw1.size (fun k hk e => by have := hr1.le; omega)), hd.touch h2 ?_ ?_, h.dge, hr, hb1.touch h2 (other_ref hr1), hs, hl, h.small⟩
  · exact hr1.ne hd.cells (by decide) (by decide)
  · exact hr1.ne hd.row (by decide) (by decide)
/-- A list is told to the book. -/
theorem PSt.kept {W w w' : World} {bd bl rd rl rc bk N : Nat} {bs bs' : Value} {D R : Dsk} {H : List Hl} (h : PSt W w bd bl rd rl rc bk N bs D R H) {x : Hd} (ht : Touch (BkS w W.heap.size) w w') (hk : Bk w' W.heap.size bk (N + 1) bs' (H ++ [⟨x, ⟨none, 0, 0⟩, N + 1⟩])) (hx : x.n ≤ 100000000) :
    PSt W w' bd bl rd rl rc bk (N + 1) bs' D R (H ++ [⟨x, ⟨none, 0, 0⟩, N + 1⟩]) := by
  refine ⟨h.below.trans (ht.below h.below.size (fun k hk e => by have := e.1; omega)), h.disk.touch ht (bkS_ne h.disk.cells (by decide) (by decide)) (bkS_ne h.disk.row (by decide) (by decide)), h.dge, h.ref.touch ht noRef_book, hk, h.same, h.left, fun i hi => ?_⟩
  · by_cases hil : i < H.length
    · rw [List.getElem_append_left hil]; exact h.small i hil
    · have : i = H.length := by simp at hi; omega
      subst this
      simpa using hx

theorem IsRef.lower {w : World} {B B' rd rl rc : Nat} {R : Dsk} (h : IsRef w B rd rl rc R) (hB : B' ≤ B) : IsRef w B' rd rl rc R := by
  obtain ⟨gs, g1, g2, g3, g4⟩ := h.row
  refine ⟨Nat.le_trans hB h.le, h.pos, h.most, h.secs, h.cells, gs, g1, ⟨g2.1, ?_⟩, fun i hi hi' => ⟨(g3 i hi hi').1, Nat.le_trans hB (g3 i hi hi').2⟩, g4⟩
  rcases g2.2 with h0 | ⟨g, cap, cur, hv, hb, h3⟩
  · exact .inl h0
  · exact .inr ⟨g, cap, cur, hv, Nat.le_trans hB hb, h3⟩
theorem PSt.start {W w1 w2 : World} {bd bl rd rl rc n : Nat} (hb1 : Below W.heap.size W w1) (g1 : W.heap.size ≤ bd) (g2 : W.heap.size ≤ bl) (hd : IsDisk w1 bd bl ⟨List.replicate n zsec, -1, false, 0⟩) (hb2 : Below w1.heap.size w1 w2)
    (hr : IsRef w2 w1.heap.size rd rl rc ⟨List.replicate n zsec, -1, false, 0⟩) :
    PSt W (w2.alloc (.cells (bookC 0 (.slice none 0 0)) 46)) bd bl rd rl rc w2.heap.size 0 (.slice none 0 0) ⟨List.replicate n zsec, -1, false, 0⟩ ⟨List.replicate n zsec, -1, false, 0⟩ [] := by
  have hb3 : Below w2.heap.size w2 (w2.alloc (.cells (bookC 0 (.slice none 0 0)) 46)) := (Below.refl _ _).alloc (Nat.le_refl _) _
  have hW2 : W.heap.size ≤ w2.heap.size := Nat.le_trans hb1.size hb2.size
  refine ⟨(hb1.trans (hb2.mono hb1.size)).trans (hb3.mono hW2), (hd.touch (Touch.of_below (S := fun _ => False) hb2) id id).touch (Touch.of_below (S := fun _ => False) hb3) id id, ⟨g1, g2⟩, (hr.below hb3).lower hb1.size,
    ⟨hW2, heap_new _ _, World.ownsRow_nil _ _ _ _, fun i hi => by simp at hi, fun i j hi => by simp at hi, fun i hi => by simp at hi, by simp⟩, ⟨rfl, rfl, rfl, .inl rfl⟩, ⟨by dsimp only; omega, by dsimp only; omega⟩, fun i hi => by simp at hi⟩

end Go.Proofs.YthenakdfdpdknaaGreatDoor

/- Both disks in a play: fuses and copies; conditions: those typed. -/
namespace Go.Proofs.YthenakdfdpdknaaGreatDoor
open Go.RowKit
set_option linter.unusedVariables false
set_option linter.unusedSimpArgs false
set_option maxRecDepth 100000

/-- What a fuse is answered. -/
def fcode (b : Bool) : Int := if b then 8 else 0
theorem dfuse_any (bd bl : Nat) (D : Dsk) (n : Int) (w : World) (h : IsDisk w bd bl D) :
    Calls Tryz.prog 10 #[.pointer (some ⟨bd, 0, none⟩), .int .i64 n] w fun e w' => e = .returned (.int .i64 (fcode D.blown)) ∧ Touch (fun k => k = bd ∨ k = bl) w w' ∧ IsDisk w' bd bl (if D.blown then D else { D with left := n }) := by
  cases hB : D.blown
  · exact (fuse_ok bd bl D n w h hB).mono fun e w' h => ⟨h.1, h.2.1.weaken (fun k _ hk => .inl hk), by rw [hB] at h; exact h.2.2⟩
  · exact (fuse_blown bd bl D n w h hB).mono fun e w' h' => by
      obtain ⟨h1, rfl⟩ := h'
      exact ⟨h1, Touch.refl _ _, h⟩
theorem rfuse_c (B rd rl rc : Nat) (R : Dsk) (n : Int) (w : World) (h : IsRef w B rd rl rc R) :
    Calls Tryz.prog 11 #[.pointer (some ⟨rd, 0, none⟩), .int .i64 n] w fun e w' => e = .returned (.int .i64 (fcode R.blown)) ∧ Touch (fun k => k = rd) w w' ∧ IsRef w' B rd rl rc (if R.blown then R else { R with left := max (-1) n }) := rfuse_any B rd rl rc R n w h
theorem Same.fuses {D R : Dsk} (h : Same D R) (n : Int) : Same (if D.blown then D else { D with left := n }) (if R.blown then R else { R with left := max (-1) n }) := by
  have e : R.blown = D.blown := h.2.1
  by_cases hb : D.blown = true
  · rw [if_pos hb, if_pos (e.trans hb)]; exact h
  · rw [if_neg hb, if_neg (fun h => hb (e.symm.trans h))]; exact h.fuse n
theorem fuse_left (D R : Dsk) (n : Int) (h : D.left ≤ 9223372036854775807 ∧ R.left ≤ 9223372036854775807) (hn : n ≤ 9223372036854775807) : (if D.blown then D else { D with left := n }).left ≤ 9223372036854775807 ∧ (if R.blown then R else { R with left := max (-1) n }).left ≤ 9223372036854775807 := by
  constructor
  · by_cases hb : D.blown = true
    · rw [if_pos hb]; exact h.1
    · rw [if_neg hb]; exact hn
  · by_cases hb : R.blown = true
    · rw [if_pos hb]; exact h.2
    · rw [if_neg hb]; dsimp only; omega
theorem one_isB (w : World) : IsB (w.alloc (.cells #[.int .u8 1] 5)) (some ⟨w.heap.size, 0, none⟩) 1 1 [1] := IsB.fresh w [1] _ 5 (0, 0) rfl 1 1 rfl rfl (by decide)

theorem PSt.copied {W w w3 w4 w5 w6 : World} {bd bl rd rl rc bk N cd cl sd sl sc : Nat} {bs : Value} {D R : Dsk} {H : List Hl} (h : PSt W w bd bl rd rl rc bk N bs D R H) (hb : Below w.heap.size w w3) (g1 : w.heap.size ≤ cd) (g2 : w.heap.size ≤ cl) (hc : IsDisk w3 cd cl ⟨D.secs, -1, false, 0⟩)
    (hb4 : Below w3.heap.size w3 w4) (ht : Touch (fun k => k = bd ∨ k = bl) w4 w5) (hb6 : Below w5.heap.size w5 w6) (hr : IsRef w6 w5.heap.size sd sl sc ⟨R.secs, -1, false, 0⟩) :
    PSt W w6 cd cl sd sl sc bk N bs ⟨D.secs, -1, false, 0⟩ ⟨R.secs, -1, false, 0⟩ H := by
  have h4 := (h.after hb).after hb4
  have hl := h.disk.lt
  have hcl := hc.lt
  have hc4 := hc.touch (Touch.of_below (S := fun _ => False) hb4) id id
  have hc5 := hc4.touch ht (by omega) (by omega)
  have hb5 : Below W.heap.size W w5 := h4.below.trans (ht.below h4.below.size (fun k hk e => by have := h.dge; omega))
  have hW := h.below.size
  exact ⟨hb5.trans (hb6.mono hb5.size), hc5.touch (Touch.of_below (S := fun _ => False) hb6) id id, ⟨by omega, by omega⟩, hr.lower hb5.size, (h4.book.touch ht (other_disk h4.disk)).below hb6, ⟨h.same.1, rfl, rfl, .inl rfl⟩, ⟨by dsimp only; omega, by dsimp only; omega⟩, h.small⟩

end Go.Proofs.YthenakdfdpdknaaGreatDoor

/- The package sums: what On and Of return. -/
namespace Go.Proofs.YthenakdfdpdknaaGreatDoor
open Go.RowKit Go.ChangeShapes Go.WideShapes Go.ChangeAt
set_option linter.unusedVariables false

def stepN (s : Nat) (c : UInt8) : Nat := (s ^^^ c.toNat) * 16777619 % 4294967296

def onN (s : Nat) (l : List UInt8) : Nat := l.foldl stepN s

theorem stepN_lt (s : Nat) (c : UInt8) : stepN s c < 4294967296 := Nat.mod_lt _ (by decide)

theorem step_eq (s : Nat) (c : UInt8) (hs : s < 4294967296) :
    bits BinOp.xor IntKind.u32 (s : Int) (c.toNat : Int) * 16777619 % 4294967296 = (stepN s c : Int) := by
  have := c.toNat_lt
  rw [u32_xor_nat s c.toNat hs (by omega)]
  unfold stepN; omega

set_option maxHeartbeats 400000 in
theorem step_any (b : Nat) (s : Nat) (c : UInt8) (w : World) (hs : s < 4294967296) (hcell : w.cell? ⟨b, 0, none⟩ = some (.int .u32 s)) (hfr : w.frozen? ⟨b, 0, none⟩ = false) :
    Calls Tryz.prog 94 #[.pointer (some ⟨b, 0, none⟩), .int .u8 c.toNat] w fun e w' => e = .returned (.tuple #[]) ∧ w.setCell ⟨b, 0, none⟩ (.int .u32 (stepN s c)) = w' := by
  have h1 := u8_lt c
  have H : Hid _ := Lib.hid (step_eq s c hs)
  go_enter Tryz.func94, Tryz.ntmps94
  go_wp2
  go_end0
  exact ⟨rfl, by rw [H.out]⟩

theorem onN_take (n : Nat) (l : List UInt8) (k : Nat) (h : k < l.length) : onN n (l.take (k + 1)) = stepN (onN n (l.take k)) l[k] := by
  unfold onN
  rw [List.take_succ_eq_append_getElem h, List.foldl_append, List.foldl_cons, List.foldl_nil]

theorem onN_lt (n : Nat) (hn : n < 4294967296) (l : List UInt8) : onN n l < 4294967296 := by
  unfold onN
  induction l generalizing n with
  | nil => exact hn
  | cons c l ih => exact ih _ (stepN_lt _ _)

set_option maxHeartbeats 400000 in
theorem on_some (b off cap : Nat) (n : Nat) (l : List UInt8) (w : World) (hn : n < 4294967296) (hlen : l.length ≤ 9223372036854775807) (hb : b < w.heap.size)
    (hc : ∀ i (h : i < l.length), w.cell? ⟨b, off + i, none⟩ = some (.int .u8 l[i].toNat)) :
    Calls Tryz.prog 68 #[.int .u32 n, .slice (some ⟨b, off, none⟩) l.length cap] w fun e w' => e = .returned (.int .u32 (onN n l)) ∧ Below w.heap.size w w' := by
  go_enter Tryz.func68, Tryz.ntmps68
  go_wp2
  go_loopw [12] (fun i wr => ∃ k : Nat, k ≤ l.length ∧ i = .int .i64 k ∧ wr = w.alloc (Obj.cells #[.int .u32 (onN n (l.take k))] 146)) (fun i _ => l.length - (intOf i).toNat)
  case atStart => exact ⟨0, Nat.zero_le _, rfl, rfl⟩
  case round =>
    obtain ⟨k, hk, rfl, rfl⟩ := hrel
    by_cases hlt : k < l.length
    · have hcell := hc k hlt
      have hstep := onN_take n l k hlt
      have hl := onN_lt n hn (l.take k)
      have H : Hid _ := Lib.hid hstep
      clear hstep hc
      go_wp2_with (go_at_call 94; refine (step_any _ _ _ _ hl (by simp [go_sem]) (by simp [go_sem])).mono ?_; rintro e w' ⟨rfl, rfl⟩)
      go_roundw
      case rel => exact ⟨k + 1, by omega, by go_num, by rw [H.out]⟩
      case measure => simp [intOf]; omega
    · have hkk : k = l.length := by omega
      subst hkk
      go_wp2
      go_ret
      refine ⟨?_, (Below.refl _ _).alloc (Nat.le_refl _) _⟩
      simp

theorem on_nil (a : Option Addr) (c n : Nat) (w : World) (hn : n < 4294967296) :
    Calls Tryz.prog 68 #[.int .u32 n, .slice a 0 c] w fun e w' => e = .returned (.int .u32 n) ∧ Below w.heap.size w w' := by
  go_enter Tryz.func68, Tryz.ntmps68
  go_wp2
  go_loopw [12] (fun i wr => i = .int .i64 0 ∧ wr = w.alloc (Obj.cells #[.int .u32 n] 146)) (fun _ _ => 0)
  case atStart => exact ⟨rfl, rfl⟩
  case round =>
    obtain ⟨rfl, rfl⟩ := hrel
    go_wp2
    go_ret
    exact ⟨rfl, (Below.refl _ _).alloc (Nat.le_refl _) _⟩

theorem on_any (a : Option Addr) (m cap n : Nat) (l : List UInt8) (w : World) (hn : n < 4294967296) (h : IsB w a m cap l) :
    Calls Tryz.prog 68 #[.int .u32 n, .slice a m cap] w fun e w' => e = .returned (.int .u32 (onN n l)) ∧ Below w.heap.size w w' := by
  obtain ⟨rfl, h1, h2, ⟨rfl, _⟩ | ⟨b, off, rfl, hb, hc⟩⟩ := h
  · exact on_nil a cap n w hn
  · exact on_some b off cap n l w hn (by unfold maxLen at h2; omega) hb hc

theorem of_any (a : Option Addr) (m cap : Nat) (l : List UInt8) (w : World) (h : IsB w a m cap l) :
    Calls Tryz.prog 69 #[.slice a m cap] w fun e w' => e = .returned (.int .u32 (onN 2166136261 l)) ∧ Below w.heap.size w w' := by
  go_enter Tryz.func69, Tryz.ntmps69
  go_wp2_with (go_at_call 68; refine (on_any _ _ _ 2166136261 l _ (by decide) h).mono ?_; rintro e w' ⟨rfl, hb⟩)
  go_ret
  exact ⟨rfl, hb⟩

end Go.Proofs.YthenakdfdpdknaaGreatDoor

/- The reference of layer 2: what On and Of return. -/
namespace Go.Proofs.YthenakdfdpdknaaGreatDoor
open Go.RowKit Go.ChangeShapes Go.WideShapes Go.ChangeAt
set_option linter.unusedVariables false

theorem split_xor (s : Nat) (c : UInt8) : s - s % 256 + ((s % 256) ^^^ c.toNat) = s ^^^ c.toNat := by
  have hc := c.toNat_lt
  have h1 : (s % 256) ^^^ c.toNat < 256 := Nat.xor_lt_two_pow (n := 8) (Nat.mod_lt _ (by decide)) (by omega)
  have h2 : (s ^^^ c.toNat) % 2 ^ 8 = (s % 2 ^ 8) ^^^ (c.toNat % 2 ^ 8) := Nat.xor_mod_two_pow
  have h3 : (s ^^^ c.toNat) / 2 ^ 8 = (s / 2 ^ 8) ^^^ (c.toNat / 2 ^ 8) := Nat.xor_div_two_pow
  have h4 : c.toNat / 2 ^ 8 = 0 := by omega
  have h5 : c.toNat % 2 ^ 8 = c.toNat := by omega
  rw [h5] at h2
  rw [h4, Nat.xor_zero] at h3
  have h6 := Nat.div_add_mod (s ^^^ c.toNat) (2 ^ 8)
  rw [h2, h3] at h6
  have e : (2 : Nat) ^ 8 = 256 := rfl
  rw [e] at h6
  omega

set_option maxHeartbeats 1000000 in
theorem rstep_any (s : Nat) (c : UInt8) (w : World) (hs : s < 4294967296) :
    Calls Tryz.prog 100 #[.int .u32 s, .int .u8 c.toNat] w fun e w' => e = .returned (.int .u32 (stepN s c)) ∧ w = w' := by
  have h1 := u8_lt c
  have hs' : (s : Int) < 4294967296 := by omega
  have hsp := split_xor s c
  have hx0 : (s % 256) ^^^ c.toNat < 256 := Nat.xor_lt_two_pow (n := 8) (Nat.mod_lt _ (by decide)) (by have := c.toNat_lt; omega)
  have hx : bits BinOp.xor IntKind.u8 ((s : Int) % 256) (c.toNat : Int) = (((s % 256) ^^^ c.toNat : Nat) : Int) := by
    rw [← u8_xor_nat _ _ (Nat.mod_lt _ (by decide)) c.toNat_lt]; rfl
  revert hx hsp hx0
  generalize (s % 256) ^^^ c.toNat = x
  intro hsp hx0 hx
  have hfin : ((((s : Int) - s % 256 + x) * 16777619) % 4294967296 : Int) = (stepN s c : Int) := by
    unfold stepN; rw [← hsp]; omega
  have H : Hid _ := Lib.hid hfin
  clear hfin hsp
  have hx1 : (x : Int) < 256 := by omega
  go_enter Tryz.func100, Tryz.ntmps100
  go_wp2
  go_ret
  refine ⟨?_, rfl⟩
  rw [← H.out]
  show Ending.returned (.int _ _) = _
  congr 2

theorem ron_some (b off cap : Nat) (n : Nat) (l : List UInt8) (w : World) (hn : n < 4294967296) (hlen : l.length ≤ 9223372036854775807) (hb : b < w.heap.size)
    (hc : ∀ i (h : i < l.length), w.cell? ⟨b, off + i, none⟩ = some (.int .u8 l[i].toNat)) :
    Calls Tryz.prog 97 #[.int .u32 n, .slice (some ⟨b, off, none⟩) l.length cap] w fun e w' => e = .returned (.int .u32 (onN n l)) ∧ w = w' := by
  go_enter Tryz.func97, Tryz.ntmps97
  go_wp2
  go_loop [0, 5] (fun v i => ∃ k : Nat, k ≤ l.length ∧ i = .int .i64 k ∧ v = .int .u32 (onN n (l.take k))) (fun _ i => l.length - (intOf i).toNat)
  case atStart => exact ⟨0, Nat.zero_le _, rfl, rfl⟩
  case round =>
    obtain ⟨k, hk, rfl, rfl⟩ := hrel
    by_cases hlt : k < l.length
    · have hcell := hc k hlt
      have hstep := onN_take n l k hlt
      have hl := onN_lt n hn (l.take k)
      have H : Hid _ := Lib.hid hstep
      clear hstep hc
      go_wp2_with (go_at_call 100; refine (rstep_any _ _ _ hl).mono ?_; rintro e w' ⟨rfl, rfl⟩)
      go_round
      case rel => exact ⟨k + 1, by omega, by go_num, by rw [H.out]⟩
      case measure => simp [intOf]; omega
    · have hkk : k = l.length := by omega
      subst hkk
      go_wp2
      go_ret
      exact ⟨by simp, rfl⟩

theorem ron_nil (a : Option Addr) (c n : Nat) (w : World) :
    Calls Tryz.prog 97 #[.int .u32 n, .slice a 0 c] w fun e w' => e = .returned (.int .u32 n) ∧ w = w' := by
  go_enter Tryz.func97, Tryz.ntmps97
  go_wp2
  go_loop [0, 5] (fun v i => i = .int .i64 0 ∧ v = .int .u32 n) (fun _ _ => 0)
  case atStart => exact ⟨rfl, rfl⟩
  case round =>
    obtain ⟨rfl, rfl⟩ := hrel
    go_wp2
    go_ret
    exact ⟨rfl, rfl⟩

theorem ron_any (a : Option Addr) (m cap n : Nat) (l : List UInt8) (w : World) (hn : n < 4294967296) (h : IsB w a m cap l) :
    Calls Tryz.prog 97 #[.int .u32 n, .slice a m cap] w fun e w' => e = .returned (.int .u32 (onN n l)) ∧ w = w' := by
  obtain ⟨rfl, h1, h2, ⟨rfl, _⟩ | ⟨b, off, rfl, hb, hc⟩⟩ := h
  · exact ron_nil a cap n w
  · exact ron_some b off cap n l w hn (by unfold maxLen at h2; omega) hb hc

theorem rof_any (a : Option Addr) (m cap : Nat) (l : List UInt8) (w : World) (h : IsB w a m cap l) :
    Calls Tryz.prog 72 #[.slice a m cap] w fun e w' => e = .returned (.int .u32 (onN 2166136261 l)) ∧ w = w' := by
  go_enter Tryz.func72, Tryz.ntmps72
  go_wp2_with (go_at_call 97; refine (ron_any _ _ _ 2166136261 l _ (by decide) h).mono ?_; rintro e w' ⟨rfl, rfl⟩)
  go_ret
  exact ⟨rfl, rfl⟩

end Go.Proofs.YthenakdfdpdknaaGreatDoor

/- The package nums: Get, over the library's Backward; conditions: those typed. -/
namespace Go.Proofs.YthenakdfdpdknaaGreatDoor
open Go.RowKit Go.Shelf
set_option linter.unusedVariables false
attribute [local go_sem] Oper.semAt_some

/-- What has come when k rounds are over. -/
def bk (l : List UInt8) (k : Nat) : List (Nat × UInt8) := (List.range k).map fun j => (l.length - 1 - j, l.getD (l.length - 1 - j) 0)
theorem bk_succ (l : List UInt8) (k : Nat) : bk l (k + 1) = bk l k ++ [(l.length - 1 - k, l.getD (l.length - 1 - k) 0)] := by simp [bk, List.range_succ]
theorem bk_length (l : List UInt8) (k : Nat) : (bk l k).length = k := by simp [bk]

/-- What a round keeps: whatever lay below, and the box of the slice. -/
def KB (n₀ Bs : Nat) (W W' : World) : Prop := Below n₀ W W' ∧ ∀ v, W.cell? ⟨Bs, 0, none⟩ = some v → W'.cell? ⟨Bs, 0, none⟩ = some v
theorem KB.t {n₀ Bs : Nat} {A B C : World} (h : KB n₀ Bs A B) (k : KB n₀ Bs B C) : KB n₀ Bs A C := ⟨h.1.trans k.1, fun v hv => k.2 v (h.2 v hv)⟩
theorem KB.b {n₀ Bs : Nat} {w : World} (hn : n₀ ≤ w.heap.size) (hB : Bs < w.heap.size) (W : World) (l : Nat) (o o' : Obj) (hl : w.heap.size ≤ l) (h : W.heap[l]? = some o) (h1 : o.isCells = false) (h2 : o.isWalk = false) : KB n₀ Bs W (W.putObj l o') :=
  ⟨belowK_b hn W l o o' hl h h1 h2, fun v hv => by
    rw [(belowK_b (n₀ := w.heap.size) (Nat.le_refl _) W l o o' hl h h1 h2).cell (p := ⟨Bs, 0, none⟩) hB]; exact hv⟩

set_option maxRecDepth 100000 in
set_option maxHeartbeats 2000000 in
theorem back1_in (F : Fence) (n : Nat) (h8 : F.fn 102) (hro : F.round = none) (hn : 1 ≤ n) (l Bs n₀ b off cap : Nat) (zs : List UInt8) (hreach : zs.length ≤ 140737488351232) (hb : b < n₀) (J Jx : List (Nat × UInt8) → World → Prop)
    (hY : ∀ pre x W, J pre W → pre.length < zs.length → YieldAt F (n - 1) Tryz.prog l #[.int .i64 (x.1 : Int), .int .u8 x.2.toNat] W fun e W' =>
      (e = .returned (.bool true) ∧ J (pre ++ [x]) W' ∧ KB n₀ Bs W W') ∨ (e = .returned (.bool false) ∧ Jx (pre ++ [x]) W'))
    (W : World) (hBs : W.cell? ⟨Bs, 0, none⟩ = some (.slice (some ⟨b, off, none⟩) zs.length cap)) (hc : ∀ i (h : i < zs.length), W.cell? ⟨b, off + i, none⟩ = some (.int .u8 zs[i].toNat)) (h0 : J [] W) :
    CallsIn F n Tryz.prog 102 #[.func (.yield l) #[] #[], .pointer (some ⟨Bs, 0, none⟩)] W fun e W' => (∃ v, e = .returned v) ∧
      ((∃ ys, ys = bk zs zs.length ∧ J ys W') ∨ (∃ pre, (∃ k, k ≤ zs.length ∧ pre = bk zs k) ∧ Jx pre W')) := by
  refine callsIn_of_wp Tryz.func102 rfl h8 ?_ hro
  simp only [Tryz.ntmps102, List.size_toArray, List.length_cons, List.length_nil, Nat.reduceAdd, Nat.reduceSub, Array.replicate_succ, Array.replicate_zero, List.push_toArray, List.append_toArray, List.nil_append, List.cons_append]
  gi_wp2
  gi_loopw [3] (fun i wr => ∃ k : Nat, k ≤ zs.length ∧ i = .int .i64 ((zs.length : Int) - 1 - k) ∧ J (bk zs k) wr ∧ KB n₀ Bs W wr)
    (fun i _ => (intOf i + 1).toNat)
  case atStart => exact ⟨0, Nat.zero_le _, by simp, h0, ⟨Below.refl _ _, fun _ h => h⟩⟩
  case round =>
    obtain ⟨k, hk, rfl, hJs, hnx⟩ := hrel
    have hBs' : wr.cell? ⟨Bs, 0, none⟩ = some (.slice (some ⟨b, off, none⟩) zs.length cap) := hnx.2 _ hBs
    by_cases hlt : k < zs.length
    · obtain ⟨m, hm, hmk⟩ : ∃ m, m < zs.length ∧ m = zs.length - 1 - k := ⟨_, by omega, rfl⟩
      have hmI : (zs.length : Int) - 1 - (k : Int) = (m : Int) := by omega
      have hcx : wr.cell? ⟨b, off + m, none⟩ = some (.int .u8 (zs[m]).toNat) := (hnx.1.cell (p := ⟨b, off + m, none⟩) hb).trans (hc m hm)
      obtain ⟨fn, tmps, assign, body, hy, hR⟩ := hY _ (m, zs.getD m 0) wr hJs (by rw [bk_length]; exact hlt)
      have hg : zs.getD m 0 = zs[m] := by simp [hm]
      rw [hg] at hy hR
      have hbs := bk_succ zs k
      rw [← hmk, hg] at hbs
      have HBS := Lib.hid hbs
      have HMK := Lib.hid hmk
      rw [hmI]
      dsimp only at hy
      clear hbs hmk hg hc
      gi_wp2
      refine hR.mono ?_
      rintro e W3 (⟨rfl, hJ3, hk3⟩ | ⟨rfl, hJx3⟩)
      · gi_wp2
        go_roundw
        case rel => exact ⟨k + 1, by omega, by have := HMK.out; first | (simp; done) | (simp; omega), by rw [HBS.out]; exact hJ3, hnx.t hk3⟩
        case measure => first | (simp [intOf]; done) | (simp [intOf]; omega)
      · gi_wp2
        refine bodyPost_ret (results_none rfl _ _ _) rfl ?_
        exact ⟨⟨_, rfl⟩, .inr ⟨_, ⟨k + 1, by omega, HBS.out.symm⟩, hJx3⟩⟩
    · obtain rfl : k = zs.length := by omega
      have hmI : (zs.length : Int) - 1 - (zs.length : Int) = -1 := by omega
      rw [hmI]
      gi_wp2
      go_end0
      exact ⟨⟨_, rfl⟩, .inl ⟨_, rfl, hJs⟩⟩


set_option maxRecDepth 100000 in
set_option maxHeartbeats 1000000 in
theorem back1_nil_in (F : Fence) (n : Nat) (h8 : F.fn 102) (hro : F.round = none) (l Bs cap : Nat) (a : Option Addr) (J : List (Nat × UInt8) → World → Prop) (W : World) (hBs : W.cell? ⟨Bs, 0, none⟩ = some (.slice a 0 cap)) (h0 : J [] W) :
    CallsIn F n Tryz.prog 102 #[.func (.yield l) #[] #[], .pointer (some ⟨Bs, 0, none⟩)] W fun e W' => (∃ v, e = .returned v) ∧ J [] W' := by
  refine callsIn_of_wp Tryz.func102 rfl h8 ?_ hro
  simp only [Tryz.ntmps102, List.size_toArray, List.length_cons, List.length_nil, Nat.reduceAdd, Nat.reduceSub, Array.replicate_succ, Array.replicate_zero, List.push_toArray, List.append_toArray, List.nil_append, List.cons_append]
  gi_wp2
  gi_loopw [3] (fun i wr => i = .int .i64 (-1) ∧ J [] wr) (fun _ _ => 0)
  case atStart => exact ⟨rfl, h0⟩
  case round =>
    obtain ⟨rfl, hJs⟩ := hrel
    gi_wp2
    go_end0
    exact ⟨⟨_, rfl⟩, hJs⟩

theorem back_in (F : Fence) (n : Nat) (h6 : F.fn 99) (hro : F.round = none) (a : Option Addr) (len cap : Nat) (w : World) :
    CallsIn F n Tryz.prog 99 #[.slice a len cap] w fun e w' => e = .returned (.func (.func 102) #[] #[.pointer (some ⟨w.heap.size, 0, none⟩)]) ∧ w' = w.alloc (.cells #[.slice a len cap] 24) := by
  refine callsIn_of_wp Tryz.func99 rfl h6 ?_ hro
  simp only [Tryz.ntmps99, List.size_toArray, List.length_cons, List.length_nil, Nat.reduceAdd, Nat.reduceSub, Array.replicate_succ, Array.replicate_zero, List.push_toArray, List.append_toArray, List.nil_append, List.cons_append]
  gi_wp2
  go_ret
  exact ⟨rfl, rfl⟩

theorem back_stops (F : Fence) (n : Nat) (h8 : F.fn 102) (hro : F.round = none) (hn : 1 ≤ n) (Bs n₀ : Nat) (a : Option Addr) (m cap : Nat) (zs : List UInt8) (hreach : zs.length ≤ 140737488351232) (w : World) (hBs : Bs < w.heap.size) (hn₀ : n₀ ≤ w.heap.size)
    (hc : w.cell? ⟨Bs, 0, none⟩ = some (.slice a m cap)) (hI : IsB w a m cap zs) (hab : ∀ b off, a = some ⟨b, off, none⟩ → b < n₀) :
    SeqStopsK F n Tryz.prog 102 #[.pointer (some ⟨Bs, 0, none⟩)] (fun x : Nat × UInt8 => #[Value.int .i64 (x.1 : Int), Value.int .u8 x.2.toNat]) (KB n₀ Bs) (fun ys => ys = bk zs zs.length)
      (fun pre => ∃ k, k ≤ zs.length ∧ pre = bk zs k) zs.length w := fun l J Jx W hW _ _ hY h0 => by
  have hc' := (hW.cell (p := ⟨Bs, 0, none⟩) hBs).trans hc
  obtain ⟨rfl, h1, h2, ⟨rfl, _⟩ | ⟨b, off, rfl, hb, hcs⟩⟩ := hI
  · exact (back1_nil_in F n h8 hro l Bs cap a J W hc' h0).mono fun e W' ⟨he, hj⟩ => ⟨he, .inl ⟨_, rfl, hj⟩⟩
  · exact back1_in F n h8 hro hn l Bs n₀ b off cap zs hreach (hab b off rfl) J Jx hY W hc' (fun i hi => (hW.cell (p := ⟨b, off + i, none⟩) hb).trans (hcs i hi)) h0

/-- A number of bytes, the lowest first. -/
def numOf (l : List UInt8) : Nat := l.foldr (fun x n => n * 256 + x.toNat) 0
def accN (pre : List (Nat × UInt8)) : Nat := pre.foldl (fun n p => n * 256 + p.2.toNat) 0
theorem accN_snoc (pre : List (Nat × UInt8)) (x : Nat × UInt8) : accN (pre ++ [x]) = accN pre * 256 + x.2.toNat := by simp [accN]
theorem accN_lt_from (pre : List (Nat × UInt8)) : ∀ n m, n < 256 ^ m → pre.foldl (fun n p => n * 256 + p.2.toNat) n < 256 ^ (m + pre.length) := by
  induction pre with
  | nil => intro n m h; exact h
  | cons x pre ih =>
    intro n m h
    have hx := x.2.toNat_lt
    have := ih (n * 256 + x.2.toNat) (m + 1) (by rw [Nat.pow_succ]; omega)
    rw [List.foldl_cons, List.length_cons]
    rwa [show m + 1 + pre.length = m + (pre.length + 1) by omega] at this
theorem accN_lt (pre : List (Nat × UInt8)) : accN pre < 256 ^ pre.length := by
  have := accN_lt_from pre 0 0 (by decide)
  rwa [Nat.zero_add] at this
theorem accN_bk (l : List UInt8) : accN (bk l l.length) = numOf l := by
  have h : (bk l l.length).map (·.2) = l.reverse := by
    apply List.ext_getElem
    · simp [bk]
    · intro i h1 h2
      have hi : i < l.length := by simpa using h2
      simp [bk]
      rw [List.getElem?_eq_getElem (by omega)]
      rfl
  have e : accN (bk l l.length) = ((bk l l.length).map (·.2)).foldl (fun n x => n * 256 + x.toNat) 0 := by unfold accN; rw [List.foldl_map]
  rw [e, h, List.foldl_reverse]
  rfl
theorem numOf_lt (l : List UInt8) : numOf l < 256 ^ l.length := by rw [← accN_bk]; have := accN_lt (bk l l.length); rwa [bk_length] at this

end Go.Proofs.YthenakdfdpdknaaGreatDoor

/- The library's slices.Clone, Clip, Equal at bytes; conditions: those typed. -/
namespace Go.Proofs.YthenakdfdpdknaaGreatDoor
open Go.RowKit
set_option linter.unusedVariables false

set_option maxHeartbeats 400000 in
theorem sclone_any (a : Option Addr) (n c : Nat) (l : List UInt8) (w : World) (hl : IsB w a n c l) (hm : l.length ≤ 140737488351232) :
    Calls Tryz.prog 37 #[.slice a n c] w fun e w' => ∃ a' c', e = .returned (.slice a' l.length c') ∧ Below w.heap.size w w' ∧ IsB w' a' l.length c' l ∧ w'.ownsRow w.heap.size 5 1 (.slice a' l.length c') l.length (bcells l) := by
  have hq : ∀ (w : World) (a : Option Addr) (n c : Nat), (binOp .eql 24 (.slice a n c) (.slice none 0 0)).run Tryz.prog w = .ok (.bool a.isNone) w := fun w a n c => Lib.run_eql_slice_nil w _ _ a n c 0 0 Tryz.underlying24
  cases a with
  | none =>
    have hnil : l = [] := by
      obtain ⟨_, _, _, ⟨h, _⟩ | ⟨_, _, h, _⟩⟩ := hl
      · exact h
      · cases h
    subst hnil
    clear hl
    go_enter Tryz.func37, Tryz.ntmps37
    go_wp2
    go_ret
    exact ⟨none, 0, rfl, Below.refl _ _, IsB.nil _, World.ownsRow_nil _ _ _ _⟩
  | some x =>
    obtain rfl := hl.1
    have hat := hl.below ((Below.refl _ w).alloc (Nat.le_refl _) (.cells #[] 5)) |>.at
    clear hl
    go_enter Tryz.func37, Tryz.ntmps37
    go_wp2_with (at_builtin; refine wpList_append_any rowU8 rfl _ _ rfl w.heap.size _ 0 [] rfl (World.ownsRow_made w #[] 0 (Nat.le_refl _) (Nat.zero_le _) rfl) (some x) l.length c (bcells l) rfl (by rw [bcells_length]; omega) hat (bcells_one l) (by unfold maxLen; omega) (by omega) (by simp) ?_; intro b2 c2 w2 hown2 hg2 hat2; simp only [Nat.zero_add, List.nil_append] at hown2 hat2)
    go_ret
    refine ⟨b2, c2, rfl, ((Below.refl _ w).alloc (Nat.le_refl _) _).grown hg2 (by simp) (fun j hj => ?_), isB_of_owns hown2 rfl, hown2⟩
    have hj' : some w.heap.size = some j := hj
    cases hj'
    exact Nat.le_refl _

set_option maxHeartbeats 400000 in
theorem clip_any (a : Option Addr) (n c : Nat) (w : World) (hn : n ≤ c) (hc : c ≤ maxLen) (ha : a = none → c = 0) :
    Calls Tryz.prog 36 #[.slice a n c] w fun e w' => e = .returned (.slice a n n) ∧ w = w' := by
  unfold maxLen at hc
  cases a with
  | none =>
    obtain rfl := ha rfl
    obtain rfl : n = 0 := by omega
    go_enter Tryz.func36, Tryz.ntmps36
    go_wp2
    go_ret
    exact ⟨rfl, rfl⟩
  | some x =>
    clear ha
    go_enter Tryz.func36, Tryz.ntmps36
    go_wp2
    go_ret
    exact ⟨rfl, rfl⟩

set_option maxHeartbeats 1000000 in
theorem sequal_some (a b ao bo c d : Nat) (l m : List UInt8) (w : World) (hlen : l.length ≤ 9223372036854775807) (hlm : l.length = m.length)
    (hl : ∀ i (h : i < l.length), w.cell? ⟨a, ao + i, none⟩ = some (.int .u8 l[i].toNat)) (hm : ∀ i (h : i < m.length), w.cell? ⟨b, bo + i, none⟩ = some (.int .u8 m[i].toNat)) :
    Calls Tryz.prog 93 #[.slice (some ⟨a, ao, none⟩) l.length c, .slice (some ⟨b, bo, none⟩) l.length d] w fun e w' => e = .returned (.bool (decide (l = m))) ∧ ∃ j, w' = w.drewN j := by
  have HLM := Lib.hid hlm
  clear hlm
  go_enter Tryz.func93, Tryz.ntmps93
  go_wp2
  go_loopw [13] (fun i wr => ∃ k j : Nat, k ≤ l.length ∧ i = .int .i64 k ∧ wr = w.drewN j ∧ l.take k = m.take k) (fun i _ => l.length - (intOf i).toNat)
  case atStart => exact ⟨0, 0, Nat.zero_le _, rfl, rfl, rfl⟩
  case round =>
    obtain ⟨k, j, hk, rfl, rfl, hs⟩ := hrel
    have HS := Lib.hid hs
    clear hs
    by_cases hlt : k < l.length
    · have hkm : k < m.length := by rw [← HLM.out]; exact hlt
      have h1 := hl k hlt
      have h2 := hm k hkm
      clear hl hm
      by_cases he : l[k] = m[k]
      · have HE := Lib.hid he
        have hn : ((l[k].toNat : Int) != (m[k].toNat : Int)) = false := by rw [he]; simp
        clear he
        go_wp2
        go_quiet (fail)
        go_wp2
        go_roundw
        case rel => exact ⟨k + 1, _, by omega, by go_num, rfl, by rw [List.take_succ_eq_append_getElem hlt, List.take_succ_eq_append_getElem hkm, HS.out, HE.out]⟩
        case measure => simp [intOf]; omega
      · have HE := Lib.hid he
        have hn : ((l[k].toNat : Int) != (m[k].toNat : Int)) = true := by rw [bne_iff_ne]; exact fun h => he (UInt8.toNat_inj.1 (by omega))
        clear he
        go_wp2
        go_quiet (fail)
        go_wp2
        go_ret
        refine ⟨?_, j + nq, by simp⟩
        have hne : decide (l = m) = false := decide_eq_false (fun h => HE.out (by subst h; rfl))
        rw [hne]; rfl
    · have hkk : k = l.length := by omega
      subst hkk
      clear hl hm
      have hlm' : l = m := by
        have h := HS.out
        rw [List.take_length, HLM.out, List.take_length] at h
        exact h
      have HQ := Lib.hid hlm'
      clear hlm'
      go_wp2
      go_ret
      refine ⟨?_, _, rfl⟩
      rw [decide_eq_true HQ.out]; rfl

theorem sequal_apart (a b : Option Addr) (n m c d : Nat) (w : World) (hnm : n ≠ m) :
    Calls Tryz.prog 93 #[.slice a n c, .slice b m d] w fun e w' => e = .returned (.bool false) ∧ ∃ j, w' = w.drewN j := by
  have hne : ((n : Int) != (m : Int)) = true := by rw [bne_iff_ne]; omega
  go_enter Tryz.func93, Tryz.ntmps93
  go_wp2
  go_ret
  exact ⟨rfl, 0, rfl⟩

theorem sequal_nil (a b : Option Addr) (c d : Nat) (w : World) :
    Calls Tryz.prog 93 #[.slice a 0 c, .slice b 0 d] w fun e w' => e = .returned (.bool true) ∧ ∃ j, w' = w.drewN j := by
  go_enter Tryz.func93, Tryz.ntmps93
  go_wp2
  go_loop [13] (fun i => i = .int .i64 0) (fun _ => 0)
  case atStart => rfl
  case round =>
    obtain rfl := hrel
    go_wp2
    go_ret
    exact ⟨rfl, 0, rfl⟩

theorem sequal_any (a b : Option Addr) (n m c d : Nat) (l k : List UInt8) (w : World) (hl : IsB w a n c l) (hk : IsB w b m d k) :
    Calls Tryz.prog 93 #[.slice a n c, .slice b m d] w fun e w' => e = .returned (.bool (decide (l = k))) ∧ ∃ j, w' = w.drewN j := by
  by_cases hnm : n = m
  · obtain ⟨rfl, h1, h2, h3⟩ := hl
    obtain ⟨rfl, k1, k2, k3⟩ := hk
    rcases h3 with ⟨rfl, _⟩ | ⟨b1, o1, rfl, hb1, hc1⟩
    · obtain rfl : k = [] := List.eq_nil_of_length_eq_zero hnm.symm
      exact sequal_nil a b c d w
    · rcases k3 with ⟨rfl, _⟩ | ⟨b2, o2, rfl, hb2, hc2⟩
      · obtain rfl : l = [] := List.eq_nil_of_length_eq_zero hnm
        exact sequal_nil _ b c d w
      · rw [← hnm]
        exact sequal_some b1 b2 o1 o2 c d l k w (by unfold maxLen at h2; omega) hnm hc1 hc2
  · have hne : decide (l = k) = false := decide_eq_false (fun h => hnm (by rw [hl.1, hk.1, h]))
    rw [hne]
    exact sequal_apart a b n m c d w hnm

end Go.Proofs.YthenakdfdpdknaaGreatDoor

/- The package nums: Put; conditions: those typed. -/
namespace Go.Proofs.YthenakdfdpdknaaGreatDoor
open Go.RowKit
set_option linter.unusedVariables false

/-- A number as so many bytes, the lowest first. -/
def leB (v : Nat) : Nat → List UInt8
  | 0 => []
  | j + 1 => leB v j ++ [UInt8.ofNat (v / 256 ^ j)]
theorem leB_length (v k : Nat) : (leB v k).length = k := by
  induction k with
  | zero => rfl
  | succ k ih => simp [leB, ih]

theorem IsB.noneCap {w : World} {a : Option Addr} {n c : Nat} {l : List UInt8} (h : IsB w a n c l) : a = none → c = 0 := by
  rcases h.2.2.2 with ⟨_, h⟩ | ⟨b, off, h, _⟩
  · exact h
  · intro e; rw [h] at e; cases e

theorem IsB.clip {w : World} {a : Option Addr} {n c : Nat} {l : List UInt8} (h : IsB w a n c l) : IsB w a n n l := by
  obtain ⟨rfl, h1, h2, h3⟩ := h
  refine ⟨rfl, Nat.le_refl _, Nat.le_trans h1 h2, ?_⟩
  rcases h3 with ⟨h, _⟩ | h
  · exact .inl ⟨h, fun _ => by rw [h]; rfl⟩
  · exact .inr h
theorem owns_base {w : World} {B e sz n : Nat} {v : Value} {xs : List Value} (h : w.ownsRow B e sz v n xs) : ∀ j, v.ownBlock = some j → B ≤ j := fun j hj => by
  rcases h.2 with ⟨rfl, _⟩ | ⟨g, cap, cur, rfl, hb, _⟩
  · cases hj
  · cases hj; exact hb

set_option maxHeartbeats 2000000 in
theorem nput_any (a : Option Addr) (n c : Nat) (l : List UInt8) (v : Nat) (k : Nat) (w : World) (hl : IsB w a n c l) (hm : l.length ≤ 140737488351232) (hv : v < 18446744073709551616) (hk0 : 0 < k) (hk : k ≤ 8) :
    Calls Tryz.prog 67 #[.slice a n c, .int .u64 v, .int .i64 k] w fun e w' => ∃ a', e = .returned (.slice a' (l.length + k) (l.length + k)) ∧ Below w.heap.size w w' ∧ IsB w' a' (l.length + k) (l.length + k) (l ++ leB v k) := by
  go_enter Tryz.func67, Tryz.ntmps67
  have hmm : (if (k : Int) < 8 then (k : Int) else 8) = (k : Int) := by split <;> omega
  have hmx : (if (k : Int) < 0 then 0 else (k : Int)) = (k : Int) := by rw [if_neg (by omega)]
  go_wp2_with (first
    | (go_at_call 37; refine (sclone_any a n c l _ hl hm).mono ?_; rintro e w1 ⟨a1, c1, rfl, hb1, _, hown1⟩)
    | fail)
  clear hmm hmx
  obtain ⟨N, hN⟩ : ∃ N, N = k := ⟨_, rfl⟩
  have HN := Lib.hid hN
  clear hN
  go_loopw [13, 7, 1] (fun i s x wr => ∃ j : Nat, ∃ b' c', j ≤ k ∧ i = .int .i64 j ∧ s = .slice b' (l.length + j) c' ∧ x = .int .u64 ((v / 256 ^ j : Nat) : Int) ∧ wr.ownsRow w.heap.size 5 1 (.slice b' (l.length + j) c') (l.length + j) (bcells (l ++ leB v j)) ∧ Below w.heap.size w wr) (fun i _ _ _ => N - (intOf i).toNat)
  case atStart => exact ⟨0, a1, c1, Nat.zero_le _, rfl, rfl, by simp, by simpa [leB] using hown1, hb1⟩
  case round =>
    obtain ⟨j, b', c', hj, rfl, rfl, rfl, hown, hbw⟩ := hrel
    obtain ⟨q, hq⟩ : ∃ q, q = v / 256 ^ j := ⟨_, rfl⟩
    have hqv : q < 18446744073709551616 := by rw [hq]; exact Nat.lt_of_le_of_lt (Nat.div_le_self _ _) hv
    have hq1 : Hid (q / 256 = v / 256 ^ (j + 1)) := Lib.hid (by rw [hq, Nat.pow_succ, Nat.div_div_eq_div_mul])
    have hl1 : Hid (leB v (j + 1) = leB v j ++ [UInt8.ofNat q]) := Lib.hid (by rw [hq]; rfl)
    have e8 : Hid ((q : Int) % 256 = ((UInt8.ofNat q).toNat : Int)) := Lib.hid (by simp)
    have hi := isB_of_owns hown (by rw [List.length_append, leB_length])
    have hi1 : l.length + j ≤ c' := by have := hi.2.1; rw [List.length_append, leB_length] at this; exact this
    have hi2 := hi.2.2.1
    have hi3 := hi.noneCap
    rw [← hq]
    clear hq
    by_cases hlt : j < k
    · go_wp2_with (at_builtin; rw [e8.out]; refine wpList_append_any rowU8 rfl _ _ rfl w.heap.size _ (l.length + j) (bcells (l ++ leB v j)) rfl (hown.alloc _) (some ⟨wr.heap.size, 0, none⟩) 1 1 [.int .u8 (UInt8.ofNat q).toNat] rfl rfl (At.one _ _ _) (one_cell _ rfl) (by unfold maxLen; omega) (by omega) (by simp; exact Nat.le_trans hbw.size (Nat.le_succ _)) ?_; intro b2 c2 w2 hown2 hg2 hat2)
      have hB2 := (hbw.alloc hbw.size _).grown hg2 (by simp; exact Nat.le_trans hbw.size (Nat.le_succ _)) (fun i hi => owns_base hown i hi)
      have ht : bcells (l ++ leB v j) ++ [.int .u8 (UInt8.ofNat q).toNat] = bcells (l ++ leB v (j + 1)) := by rw [hl1.out, ← List.append_assoc, bcells_append _ [UInt8.ofNat q]]; rfl
      rw [ht] at hown2
      have HOW := Lib.hid hown2
      clear hown2 ht hown hi hi1 hi2 hi3 e8 hl1
      go_wp2_with fail
      go_roundw
      case rel => exact ⟨j + 1, b2, c2, by omega, by go_num, rfl, by rw [← hq1.out]; simp, HOW.out, hB2⟩
      case measure => have := HN.out; simp [intOf]; omega
    · have hjk : j = k := by omega
      subst hjk
      go_wp2_with (first
        | (go_at_call 36; refine (clip_any b' _ c' wr hi1 hi2 hi3).mono ?_; rintro e w2 ⟨rfl, rfl⟩)
        | fail)
      go_ret
      refine ⟨b', rfl, hbw, ?_⟩
      exact hi.clip

end Go.Proofs.YthenakdfdpdknaaGreatDoor

/- The document's nums (salesroomref01): Put; conditions: those typed. -/
namespace Go.Proofs.YthenakdfdpdknaaGreatDoor
open Go.RowKit
set_option linter.unusedVariables false
set_option linter.unusedSimpArgs false
set_option maxRecDepth 100000

set_option maxHeartbeats 2000000 in
theorem rput_any (a : Option Addr) (n c : Nat) (l : List UInt8) (v : Nat) (k : Nat) (w : World) (hl : IsB w a n c l) (hm : l.length ≤ 100000) (hv : v < 18446744073709551616) (hk : k ≤ 8) :
    Calls Tryz.prog 33 #[.slice a n c, .int .u64 v, .int .i64 k] w fun e w' => ∃ a' c', e = .returned (.slice a' (l.length + k) c') ∧ Below w.heap.size w w' ∧ w'.ownsRow w.heap.size 5 1 (.slice a' (l.length + k) c') (l.length + k) (bcells (l ++ leB v k)) := by
  obtain rfl := hl.1
  have hat := hl.at
  have hl1 : Hid ((bcells l).length = l.length * 1) := Lib.hid (by rw [bcells_length]; omega)
  clear hl
  go_enter Tryz.func33, Tryz.ntmps33
  go_wp2_with (first
    | (at_builtin; refine wpList_append_any rowU8 rfl (.const (.slice none 0 0)) (.tmp 9) rfl w.heap.size (.slice none 0 0) 0 [] rfl (World.ownsRow_nil _ _ _ _) a l.length c (bcells l) rfl hl1.out hat (bcells_one l) (by unfold maxLen; omega) (by omega) (by simp) ?_; intro b2 c2 w2 hown2 hg2 hat2; simp only [Nat.zero_add, List.nil_append] at hown2 hat2)
    | fail)
  have HO2 := Lib.hid hown2
  have HB2 : Hid (Below w.heap.size w w2) := Lib.hid ((Below.refl _ _).grown hg2 (Nat.le_refl _) (by simp [Value.ownBlock]))
  clear hown2 hg2 hat2 hat hl1
  obtain ⟨N, hN⟩ : ∃ N, N = k := ⟨_, rfl⟩
  have HN := Lib.hid hN
  clear hN
  go_loopw [8, 7] (fun i s wr => ∃ j : Nat, ∃ b' c', j ≤ k ∧ i = .int .i64 j ∧ s = .slice b' (l.length + j) c' ∧ Hid (wr.ownsRow w.heap.size 5 1 (.slice b' (l.length + j) c') (l.length + j) (bcells (l ++ leB v j))) ∧ Hid (Below w.heap.size w wr)) (fun i _ _ => N - (intOf i).toNat)
  case atStart => exact ⟨0, b2, c2, Nat.zero_le _, rfl, rfl, Lib.hid (by simpa [leB] using HO2.out), HB2⟩
  case round =>
    clear HO2 HB2
    obtain ⟨j, b', c', hj, rfl, rfl, HO, HB⟩ := hrel
    by_cases hlt : j < k
    · have h8 : j < 8 := by omega
      have hsz := HB.out.size
      have hi := isB_of_owns HO.out (by rw [List.length_append, leB_length])
      have hlc : l.length + j ≤ c' := by have := hi.2.1; rw [List.length_append, leB_length] at this; exact this
      have e8 : Hid ((v : Int) / 2 ^ (8 * j) % 256 = ((UInt8.ofNat (v / 256 ^ j)).toNat : Int)) := Lib.hid (by
        have h1 : (256 : Nat) ^ j = 2 ^ (8 * j) := by rw [Nat.pow_mul]
        rw [h1]
        simp)
      clear hi
      go_wp2_with (at_builtin; rw [e8.out]; refine wpList_append_any rowU8 rfl _ _ rfl w.heap.size _ (l.length + j) (bcells (l ++ leB v j)) rfl (HO.out.alloc _) (some ⟨wr.heap.size, 0, none⟩) 1 1 [.int .u8 (UInt8.ofNat (v / 256 ^ j)).toNat] rfl rfl (At.one _ _ _) (one_cell _ rfl) (by unfold maxLen; omega) (by omega) (by simp; omega) ?_; intro b2 c2 w2 hown2 hg2 hat2)
      have hB2 := (HB.out.alloc hsz _).grown hg2 (by simp; omega) (fun i hi => owns_base HO.out i hi)
      have ht : bcells (l ++ leB v j) ++ [.int .u8 (UInt8.ofNat (v / 256 ^ j)).toNat] = bcells (l ++ leB v (j + 1)) := by
        rw [show leB v (j + 1) = leB v j ++ [UInt8.ofNat (v / 256 ^ j)] from rfl, ← List.append_assoc, bcells_append _ [UInt8.ofNat (v / 256 ^ j)]]; rfl
      rw [ht] at hown2
      have HOW := Lib.hid hown2
      have HBW := Lib.hid hB2
      clear hown2 ht hg2 hat2 e8 hB2 HO HB
      go_wp2_with fail
      go_roundw
      case rel => exact ⟨j + 1, b2, c2, by omega, by go_num, rfl, HOW, HBW⟩
      case measure => have := HN.out; simp [intOf]; omega
    · have hje : j = k := by omega
      subst hje
      go_wp2_with fail
      go_ret
      exact ⟨b', c', rfl, HB.out, HO.out⟩

end Go.Proofs.YthenakdfdpdknaaGreatDoor

/- The document's nums (salesroomref01): Get; conditions: those typed. -/
namespace Go.Proofs.YthenakdfdpdknaaGreatDoor
open Go.RowKit
set_option linter.unusedVariables false
set_option linter.unusedSimpArgs false
set_option maxRecDepth 100000

theorem numOf_cons (x : UInt8) (l : List UInt8) : numOf (x :: l) = numOf l * 256 + x.toNat := rfl
theorem numOf_drop (l : List UInt8) (j : Nat) (h : j < l.length) : numOf (l.drop j) = numOf (l.drop (j + 1)) * 256 + l[j].toNat := by
  rw [List.drop_eq_getElem_cons h, numOf_cons]

set_option maxHeartbeats 2000000 in
theorem rget_any (a : Option Addr) (m c k : Nat) (kI : Int) (l : List UInt8) (w : World) (hkI : kI = (k : Int)) (hl : IsB w a m c l) (hk1 : 1 ≤ k) (hk8 : k ≤ 8) (hkl : k ≤ l.length) :
    Calls Tryz.prog 96 #[.slice a m c, .int .i64 kI] w fun e w' => e = .returned (.tuple #[.int .u64 (numOf (l.take k)), .int .i64 0]) ∧ w = w' := by
  subst hkI
  obtain ⟨rfl, hc1, hc2, h3⟩ := hl
  rcases h3 with ⟨h3, _⟩ | ⟨b, off, rfl, hb, hc⟩
  · rw [h3] at hkl; simp at hkl; omega
  have hm : l.length ≤ 9223372036854775807 := by unfold maxLen at hc2; omega
  have HC := Lib.hid hc
  clear hc hc2 hb
  have d1 : decide ((k : Int) < 1) = false := by simp; omega
  have d2 : decide ((8 : Int) < (k : Int)) = false := by simp; omega
  have d3 : decide ((l.length : Int) < (k : Int)) = false := by simp; omega
  obtain ⟨L, hL⟩ : ∃ L, L = l.take k := ⟨_, rfl⟩
  have hLl : L.length = k := by rw [hL]; simp; omega
  have HLL := Lib.hid hLl
  have HLg : Hid (∀ j (h : j < L.length), ∃ h' : j < l.length, L[j] = l[j]) := Lib.hid (fun j h => ⟨by omega, by subst hL; simp⟩)
  rw [← hL]
  clear hL hLl
  go_enter Tryz.func96, Tryz.ntmps96
  go_wp2_with fail
  go_loopw [7, 6] (fun i s wr => ∃ j n : Nat, ∃ x : Int, j ≤ k ∧ x = (j : Int) - 1 ∧ i = .int .i64 x ∧ s = .int .u64 n ∧ Hid (n = numOf (L.drop j)) ∧ wr = w) (fun i _ _ => (intOf i + 1).toNat)
  case atStart => exact ⟨k, 0, _, Nat.le_refl _, rfl, rfl, rfl, Lib.hid (by rw [List.drop_eq_nil_of_le (by have := HLL.out; omega)]; rfl), rfl⟩
  case round =>
    obtain ⟨j, n, x, hj, hx, rfl, rfl, HN, rfl⟩ := hrel
    cases j with
    | zero =>
      obtain rfl : x = -1 := by omega
      have d0 : decide ((0 : Int) ≤ -1) = false := rfl
      clear hx
      go_wp2_with fail
      go_ret2
      have := HN.out
      rw [List.drop_zero] at this
      exact ⟨by rw [this]; rfl, rfl⟩
    | succ j =>
      obtain rfl : x = (j : Int) := by omega
      clear hx
      have hjL : j < L.length := by have := HLL.out; omega
      obtain ⟨hjl, hge⟩ := HLg.out j hjL
      have c1 := HC.out j hjl
      have hn : n < 72057594037927936 := by
        rw [HN.out]
        refine Nat.lt_of_lt_of_le (numOf_lt _) ?_
        rw [List.length_drop]
        have : L.length - (j + 1) ≤ 7 := by have := HLL.out; omega
        exact Nat.le_trans (Nat.pow_le_pow_right (by decide) this) (by decide)
      have hu := (l[j]).toNat_lt
      have hw : IntKind.u64.wrap ((n : Int) * 256) = (n : Int) * 256 := by rw [IntKind.wrap_u64]; omega
      have hw2 : IntKind.u64.wrap ((n : Int) * 256 + (l[j].toNat : Int)) = (n : Int) * 256 + (l[j].toNat : Int) := by rw [IntKind.wrap_u64]; omega
      go_wp2_with fail
      go_roundw
      case rel => exact ⟨j, n * 256 + l[j].toNat, _, by omega, rfl, rfl, congrArg (Value.int .u64) (by omega), Lib.hid (by rw [numOf_drop L j hjL, ← HN.out, hge]), trivial⟩
      case measure => simp [intOf]

end Go.Proofs.YthenakdfdpdknaaGreatDoor

/- The package slots: the mark of a record; conditions: those typed. -/
namespace Go.Proofs.YthenakdfdpdknaaGreatDoor
open Go.RowKit
set_option linter.unusedVariables false

def mk6 (num : Nat) (b : List UInt8) : List UInt8 := leB num 4 ++ leB b.length 2
/-- A record's mark. -/
def mkB (num : Nat) (b : List UInt8) : List UInt8 := mk6 num b ++ leB (onN (onN 2166136261 (mk6 num b)) b) 4
theorem mk6_length (num : Nat) (b : List UInt8) : (mk6 num b).length = 6 := by simp [mk6, leB_length]
theorem mkB_length (num : Nat) (b : List UInt8) : (mkB num b).length = 10 := by simp [mkB, mk6_length, leB_length]

theorem nput_at {W : World} (a : Option Addr) (n c m : Nat) (l : List UInt8) (v : Nat) (k : Nat) (kI : Int) (w : World) (hkI : kI = (k : Int)) (hB : Below W.heap.size W w) (hl : IsB W a n c l) (hm : n + k = m) (hn : n ≤ 1000) (hv : v < 18446744073709551616) (hk0 : 0 < k) (hk : k ≤ 8) :
    Calls Tryz.prog 67 #[.slice a n c, .int .u64 v, .int .i64 kI] w fun e w' => ∃ a', e = .returned (.slice a' m m) ∧ Below W.heap.size W w' ∧ Below w.heap.size w w' ∧ IsB w' a' m m (l ++ leB v k) := by
  obtain rfl := hl.1
  subst hm hkI
  refine (nput_any a _ c l v k w (hl.below hB) (by omega) hv hk0 hk).mono ?_
  rintro e w' ⟨a', rfl, hb, hi⟩
  exact ⟨a', rfl, hB.trans (hb.mono hB.size), hb, hi⟩

set_option maxHeartbeats 4000000 in
theorem mark_any (num : Nat) (hn32 : num < 4294967296) (a : Option Addr) (n c : Nat) (b : List UInt8) (w : World) (hb : IsB w a n c b) (hm : b.length ≤ 65535) :
    Calls Tryz.prog 30 #[.agg #[.int .u32 num, .slice a n c]] w fun e w' => ∃ a', e = .returned (.slice a' 10 10) ∧ Below w.heap.size w w' ∧ IsB w' a' 10 10 (mkB num b) := by
  obtain rfl := hb.1
  have hbel : Below w.heap.size w (w.alloc (.cells #[.int .u32 num, .slice a b.length c] 72)) := (Below.refl _ _).alloc (Nat.le_refl _) _
  have hcz := heap_new w (.cells #[.int .u32 num, .slice a b.length c] 72 (0, 0))
  have hb0 := hb.below hbel
  go_enter Tryz.func30, Tryz.ntmps30
  go_wp2_with fail
  generalize w.alloc (.cells #[.int .u32 num, .slice a b.length c] 72) = w0 at hbel hcz hb0 ⊢
  have f0 : w0.cell? ⟨w.heap.size, 0, none⟩ = some (.int .u32 num) := by rw [cell_of_block hcz]; rfl
  have f1 : w0.cell? ⟨w.heap.size, 1, none⟩ = some (.slice a b.length c) := by rw [cell_of_block hcz]; rfl
  have e1 : IntKind.u64.wrap (num : Int) = (num : Int) := by rw [IntKind.wrap_u64]; omega
  have e2 : IntKind.u64.wrap (b.length : Int) = (b.length : Int) := by rw [IntKind.wrap_u64]; omega
  have hd0 := (Below.refl w0.heap.size w0).drew
  go_region_held3 (fun w' => w'.cell? ⟨w.heap.size, 0, none⟩ = some (.int .u32 num) ∧ w'.cell? ⟨w.heap.size, 1, none⟩ = some (.slice a b.length c)) (first
      | with_reducible exact ⟨cell_later hB2 f0, cell_later hB2 f1⟩
      | with_reducible exact ⟨cell_later hB1 f0, cell_later hB1 f1⟩
      | with_reducible exact ⟨cell_later hd0 f0, cell_later hd0 f1⟩) (first
    | (go_at_call 67; ((with_reducible refine (nput_at none 0 0 4 [] num 4 4 w0.drew rfl hd0 (IsB.nil _) rfl (by decide) (by omega) (by decide) (by decide)).mono ?_); rintro e w1 ⟨a1, rfl, hB1, _, hi1⟩))
    | (go_at_call 67; ((with_reducible refine (nput_at a1 4 4 6 _ b.length 2 2 w1 rfl (Below.refl _ _) hi1 rfl (by decide) (by omega) (by decide) (by decide)).mono ?_); rintro e w2 ⟨a2, rfl, hb2, _, hi2⟩; have hB2 := hB1.trans (hb2.mono hB1.size)))
    | fail)
  have hi2' : IsB w2 a2 6 6 (mk6 num b) := by rw [List.nil_append] at hi2; exact hi2
  have h6 := mk6_length num b
  have f0' := cell_later hB2 f0
  have f1' := cell_later hB2 f1
  have hb2' := hb0.below hB2
  have HB2 := Lib.hid (hbel.trans (hB2.mono hbel.size))
  have hmk : mkB num b = mk6 num b ++ leB (onN (onN 2166136261 (mk6 num b)) b) 4 := rfl
  generalize mk6 num b = l6 at hi2' h6 hmk
  have hs1 := onN_lt 2166136261 (by decide) l6
  have hs2 := onN_lt _ hs1 b
  have HMK := Lib.hid hmk
  clear hi2 hi1 hB1 hb2 hB2 f0 f1 hb0 hd0 hbel hcz e1 e2 hmk hb
  have hs1' : onN 2166136261 l6 = onN 2166136261 l6 := rfl
  have HS0 : Hid (∀ (w : World), IsB w a2 6 6 l6 → Calls Tryz.prog 69 #[.slice a2 6 6] w fun e w' => e = .returned (.int .u32 (onN 2166136261 l6)) ∧ Below w.heap.size w w') := Lib.hid (fun w h => of_any a2 6 6 l6 w h)
  clear hs1'
  generalize onN 2166136261 l6 = s1 at hs1 hs2 HMK HS0
  go_wp2_with fail
  have hd0 := (Below.refl w2.heap.size w2).drew
  have e3 : IntKind.u64.wrap ((onN s1 b : Nat) : Int) = ((onN s1 b : Nat) : Int) := by rw [IntKind.wrap_u64]; omega
  go_region_held3 (fun w' => w'.cell? ⟨w.heap.size, 0, none⟩ = some (.int .u32 num) ∧ w'.cell? ⟨w.heap.size, 1, none⟩ = some (.slice a b.length c)) (first
      | with_reducible exact ⟨cell_later hB5 f0', cell_later hB5 f1'⟩
      | with_reducible exact ⟨cell_later hB4 f0', cell_later hB4 f1'⟩
      | with_reducible exact ⟨cell_later hB3 f0', cell_later hB3 f1'⟩
      | with_reducible exact ⟨cell_later hd0 f0', cell_later hd0 f1'⟩) (first
    | (go_at_call 69; ((with_reducible refine (HS0.out w2.drew (hi2'.below hd0)).mono ?_); rintro e w3 ⟨rfl, hb3⟩; have hB3 : Below w2.heap.size w2 w3 := hd0.trans (hb3.mono hd0.size)))
    | (go_at_call 68; ((with_reducible refine (on_any a b.length c s1 b w3 hs1 (hb2'.below hB3)).mono ?_); rintro e w4 ⟨rfl, hb4⟩; have hB4 : Below w2.heap.size w2 w4 := hB3.trans (hb4.mono hB3.size)))
    | (go_at_call 67; ((with_reducible refine (nput_at a2 6 6 10 l6 (onN s1 b) 4 4 w4 rfl hB4 hi2' rfl (by decide) (by omega) (by decide) (by decide)).mono ?_); rintro e w5 ⟨a5, rfl, hB5, _, hi5⟩))
    | fail)
  rw [← HMK.out] at hi5
  go_wp2_with fail
  go_ret
  exact ⟨a5, rfl, HB2.out.trans (hB5.mono HB2.out.size), hi5⟩

end Go.Proofs.YthenakdfdpdknaaGreatDoor

/- The package nums: Get; conditions: those typed. -/
namespace Go.Proofs.YthenakdfdpdknaaGreatDoor
open Go.RowKit Go.Shelf
set_option linter.unusedVariables false
attribute [local go_sem] Oper.semAt_some

theorem acc_step (pre : List (Nat × UInt8)) (x : UInt8) (h : pre.length < 8) : bits BinOp.or IntKind.u64 (IntKind.u64.wrap ((accN pre : Int) * 256)) (IntKind.u64.wrap (x.toNat : Int)) = ((accN pre * 256 + x.toNat : Nat) : Int) := by
  have hx := x.toNat_lt
  have h7 : accN pre < 72057594037927936 := Nat.lt_of_lt_of_le (accN_lt pre) (Nat.le_trans (Nat.pow_le_pow_right (by decide) (show pre.length ≤ 7 by omega)) (by decide))
  have e1 : IntKind.u64.wrap ((accN pre : Int) * 256) = ((accN pre * 256 : Nat) : Int) := by rw [IntKind.wrap_u64]; omega
  have e2 : IntKind.u64.wrap (x.toNat : Int) = (x.toNat : Int) := by rw [IntKind.wrap_u64]; omega
  rw [e1, e2, u64_or_nat _ _ (by omega) (by omega)]
  congr 1
  have := Nat.two_pow_add_eq_or_of_lt (i := 8) (b := x.toNat) (by omega) (accN pre)
  rw [Nat.mul_comm] at this
  exact this.symm

set_option maxRecDepth 100000 in
set_option maxHeartbeats 4000000 in
theorem nget_in (F : Fence) (n : Nat) (h3 : F.fn 92) (h6 : F.fn 99) (h8 : F.fn 102) (hro : F.round = none) (hn : 3 ≤ n) (b off c k m : Nat) (l : List UInt8) (w : World)
    (hl : IsB w (some ⟨b, off, none⟩) m c l) (hk1 : 1 ≤ k) (hk8 : k ≤ 8) (hkl : k ≤ l.length) :
    CallsIn F n Tryz.prog 92 #[.slice (some ⟨b, off, none⟩) m c, .int .i64 k] w fun e W' => e = .returned (.tuple #[.int .u64 (numOf (l.take k)), .int .i64 0]) ∧ Below w.heap.size w W' := by
  have h1 : 1 ≤ n := by omega
  obtain rfl := hl.1
  have d1 : decide ((k : Int) < 1) = false := by rw [decide_eq_false_iff_not]; omega
  have d2 : decide ((8 : Int) < (k : Int)) = false := by rw [decide_eq_false_iff_not]; omega
  have d3 : decide ((l.length : Int) < (k : Int)) = false := by rw [decide_eq_false_iff_not]; omega
  refine callsIn_of_wp_marks Tryz.func92 rfl h3 ?_ hro
  simp only [Tryz.ntmps92, List.size_toArray, List.length_cons, List.length_nil, Nat.reduceAdd, Nat.reduceSub, Array.replicate_succ, Array.replicate_zero, List.push_toArray, List.append_toArray, List.nil_append, List.cons_append]
  have hcc : l.length ≤ c := hl.2.1
  gi_wp2_with (gi_at_call 99; refine (back_in F (n - 1) h6 hro _ _ _ _).mono ?_; rintro e w' ⟨rfl, rfl⟩)
  have hb := hl.2.2.2
  have bS := Boxed.new w 80 (.int .u64 0)
  have bN := Boxed.new (w.alloc (.cells #[.int .u64 0] 80)) 24 (.slice (some ⟨b, off, none⟩) k k)
  rw [World.size_alloc] at bN
  have hB0 : Below w.heap.size w ((w.alloc (.cells #[.int .u64 0] 80)).alloc (.cells #[.slice (some ⟨b, off, none⟩) k k] 24)) := ((Below.refl _ w).alloc (Nat.le_refl _) _).alloc (by simp) _
  have hlt : (l.take k).length = k := by simp; omega
  have hbl : b < w.heap.size := by
    rcases hl.2.2.2 with ⟨h, _⟩ | ⟨b', off', h, h2, _⟩
    · rw [h] at hkl; simp at hkl; omega
    · cases h; exact h2
  have hI : IsB w (some ⟨b, off, none⟩) k k (l.take k) := by
    refine ⟨hlt.symm, by omega, Nat.le_trans hkl (Nat.le_trans hl.2.1 hl.2.2.1), .inr ⟨b, off, rfl, hbl, fun i hi => ?_⟩⟩
    rcases hl.2.2.2 with ⟨h, _⟩ | ⟨b', off', h, h2, h3⟩
    · rw [h] at hkl; simp at hkl; omega
    · cases h
      have := h3 i (by simp at hi; omega)
      rw [this]; simp
  refine wpIn_rangeFunc_ownG hro h1 (gf := 102) (lb := #[.pointer (some ⟨w.heap.size + 1, 0, none⟩)]) rfl h8 (enters_of Tryz.func102 (by kernel_rfl) rfl)
    (back_stops F (n - 1) h8 hro (by omega) (w.heap.size + 1) w.heap.size (some ⟨b, off, none⟩) k k (l.take k) (by rw [hlt]; omega) _ (by simp) (by simp; omega) bN.cell (hI.below hB0) (fun b' off' h => by cases h; exact hbl)) KB.t (KB.b (by simp; omega) (by simp)) (Below.refl _ _) (fun _ => rfl)
    (fun pre W => (W.cell? ⟨w.heap.size, 0, none⟩ = some (.int .u64 (accN pre)) ∧ W.frozen? ⟨w.heap.size, 0, none⟩ = false) ∧ Below w.heap.size w W)
    (fun _ _ _ => False)
    (OwnFrom.and (Own.from (fun s A B row hs hg hr => ⟨cell_kept hs.1 hg hr, (frozen_kept hs.1 hg hr).trans hs.2⟩) _) (ownFrom_below (Nat.le_refl _) (by simp; omega)))
    (fun _ _ _ _ _ hs _ _ => hs)
    ⟨⟨(bS.alloc _).cell, (bS.alloc _).frozen⟩, hB0⟩
    (fun x => { tmps := #[.slice (some ⟨b, off, none⟩) l.length c, .int .i64 k, undef, undef, .pointer (some ⟨w.heap.size, 0, none⟩), .int .i64 0, undef, .int .u8 x.2.toNat, .bool false, .int .i64 k, .bool false, .bool false, .int .i64 k, .bool false, .bool false, .bool false, .slice (some ⟨b, off, none⟩) l.length c, .int .i64 l.length, .int .i64 k, .bool false, .slice (some ⟨b, off, none⟩) l.length c, .int .i64 k, .int .i64 k, .slice (some ⟨b, off, none⟩) k k, .func (.func 102) #[] #[.pointer (some ⟨w.heap.size + 1, 0, none⟩)], .int .i64 (x.1 : Int), .int .u8 x.2.toNat, undef, undef, undef, undef, undef, undef], defers := [] }) ?assign ?body ?done ?stop
  case assign =>
    intro l x W K hK
    gi_wp2
    exact hK
  case body =>
    rintro l pre x W ⟨⟨hc, hf⟩, hB⟩ hpl
    gi_wp2
    have hst := acc_step pre x.2 (by omega)
    rw [hst]
    refine ⟨(KeepsOthers.setCell _ _ _).from _, ⟨(Below.refl w.heap.size W).setCell (p := ⟨w.heap.size, 0, none⟩) (Nat.le_refl _) _, fun v hv => ?_⟩, ⟨by rw [accN_snoc]; exact World.cell?_setCell_same' _ _ _ (by rw [hc]; rfl), by rw [World.frozen?_setCell]; exact hf⟩, hB.setCell (p := ⟨w.heap.size, 0, none⟩) (Nat.le_refl _) _⟩
    rw [World.cell?_setCell_other _ _ _ _ (by simp)]; exact hv
  case done =>
    rintro D ys W hD rfl ⟨⟨hc, hf⟩, hB⟩ hK
    rw [accN_bk] at hc
    gi_wp2
    have hK' := (KeepsOthers.setCell W ⟨w.heap.size, 0, none⟩ (.int .u64 (numOf (l.take k)))).same D _ hK rfl
    refine ⟨by simp, .inl ⟨_, _, rfl, run_takeDeferred hK', ?_⟩⟩
    have hc5 := cell_kept (World.cell?_setCell_same' W ⟨w.heap.size, 0, none⟩ (.int .u64 (numOf (l.take k))) (by rw [hc]; rfl)) (grownBy_putObj' _ D (.deferred none)) (fun r e => by cases e; exact ⟨_, hK', rfl⟩)
    refine ⟨.tuple #[.int .u64 (numOf (l.take k)), .int .i64 0], ?_, rfl, (hB.setCell (p := ⟨w.heap.size, 0, none⟩) (Nat.le_refl _) _).trans (belowK_b (w := w) (Nat.le_refl _) _ D _ _ (by simp at hD; omega) hK' rfl rfl)⟩
    simp [results, Tryz.f92, go_sem, hc5]
  case stop =>
    rintro D c pre W _ _ h _
    exact h.elim

/-- nums.Get, where there are as many bytes. -/
theorem nget_any (a : Option Addr) (c k m : Nat) (l : List UInt8) (w : World) (hl : IsB w a m c l) (hk1 : 1 ≤ k) (hk8 : k ≤ 8) (hkl : k ≤ l.length) :
    Calls Tryz.prog 92 #[.slice a m c, .int .i64 k] w fun e W' => e = .returned (.tuple #[.int .u64 (numOf (l.take k)), .int .i64 0]) ∧ Below w.heap.size w W' := by
  have ha : ∃ b off, a = some ⟨b, off, none⟩ := by
    rcases hl.2.2.2 with ⟨h, _⟩ | ⟨b, off, h, _⟩
    · rw [h] at hkl; simp at hkl; omega
    · exact ⟨b, off, h⟩
  obtain ⟨b, off, rfl⟩ := ha
  exact (nget_in ⟨fun _ => True, none, true, none⟩ 3 trivial trivial trivial rfl (Nat.le_refl _) b off c k m l w hl hk1 hk8 hkl).calls (fun k d h => by cases h)

end Go.Proofs.YthenakdfdpdknaaGreatDoor

/- Structs of several cells in a variable, and as a result: laws of our own; no program in sight. -/
namespace Go.Proofs.YthenakdfdpdknaaGreatDoor
open Go.RowKit
set_option linter.unusedVariables false

/-- A struct, or an array, is laid into a part of a variable. -/
theorem wpList_store_part {P : Program} {w : World} {ops : Array Oper} {rest : List Oper} {o : Oper} {a : Act} {Q : Exit → Act → World → Prop} (hgd : o.guard = none) (t : TypeId) (x y : Operand) (ho : o.op = .store t x y)
    (bz off : Nat) (cs : List Value) (C : Array Value) (ty : TypeId) (hg : w.heap[bz]? = some (.cells C ty (0, 0))) (hx : a.eval x = .pointer (some ⟨bz, off, none⟩)) (hy : a.eval y = .agg cs.toArray) (hfit : off + cs.length ≤ C.size)
    (hi : (P.info? t).map (·.size) = some cs.length) (h1 : ∀ v ∈ cs, v.oneCell' = true)
    (h : ∀ w', Touch (fun k => k = bz) w w' → w'.heap[bz]? = some (.cells (C.toList.take off ++ cs ++ C.toList.drop (off + cs.length)).toArray ty (0, 0)) → wpList P ops Q rest (a.put o.dst undef) w') : wpList P ops Q (o :: rest) a w := by
  refine wpList_store_mid hgd t x y ho bz off cs.toArray hx hy (there_row hg _ _ (by simpa using hfit)) (by simpa using hi) (all_oneCell_toArray h1) ?_
  obtain ⟨g, ht⟩ := setCells_heap P w bz off cs C ty hg hfit h1
  exact h _ ht g
/-- .. into the whole of it. -/
theorem wpList_store_whole {P : Program} {w : World} {ops : Array Oper} {rest : List Oper} {o : Oper} {a : Act} {Q : Exit → Act → World → Prop} (hgd : o.guard = none) (t : TypeId) (x y : Operand) (ho : o.op = .store t x y)
    (bz : Nat) (cs : List Value) (C : Array Value) (ty : TypeId) (hg : w.heap[bz]? = some (.cells C ty (0, 0))) (hx : a.eval x = .pointer (some ⟨bz, 0, none⟩)) (hy : a.eval y = .agg cs.toArray) (hfit : cs.length = C.size)
    (hi : (P.info? t).map (·.size) = some cs.length) (h1 : ∀ v ∈ cs, v.oneCell' = true)
    (h : ∀ w', Touch (fun k => k = bz) w w' → w'.heap[bz]? = some (.cells cs.toArray ty (0, 0)) → wpList P ops Q rest (a.put o.dst undef) w') : wpList P ops Q (o :: rest) a w := by
  refine wpList_store_part hgd t x y ho bz 0 cs C ty hg hx hy (by omega) hi h1 fun w' ht hw => h w' ht ?_
  rw [List.take_zero, List.nil_append, List.drop_eq_nil_of_le (by simp; omega), List.append_nil] at hw
  exact hw
theorem results_cell {P : Program} {fn : Func} {t : Tmp} {ty : TypeId} (h : fn.results = #[.cell t ty]) (tmps : Array Value) (w : World) (b o : Nat) (hp : tmps.getD t undef = .pointer (some ⟨b, o, none⟩)) (cs : List Value) (d : TypeDesc) (hc : w.rangeAt b o cs)
    (hu : P.underlying ty = some d) (hd : d.isRow = true) (hi : (P.info? ty).map (·.size) = some cs.length) : (results fn tmps).run P w = .ok (.agg cs.toArray) w := by
  have := run_loadVar_mid (P := P) w b o ty cs d hc hu hd hi
  have hp' : tmps[t]?.getD undef = .pointer (some ⟨b, o, none⟩) := by rw [← hp]; simp
  simp [results, h, hp', asAddr, this]
theorem results_cell_tmp {P : Program} {fn : Func} {t u : Tmp} {ty : TypeId} (h : fn.results = #[.cell t ty, .tmp u]) (tmps : Array Value) (w : World) (b o : Nat) (hp : tmps.getD t undef = .pointer (some ⟨b, o, none⟩)) (cs : List Value) (d : TypeDesc) (hc : w.rangeAt b o cs)
    (hu : P.underlying ty = some d) (hd : d.isRow = true) (hi : (P.info? ty).map (·.size) = some cs.length) : (results fn tmps).run P w = .ok (.tuple #[.agg cs.toArray, tmps.getD u undef]) w := by
  have := run_loadVar_mid (P := P) w b o ty cs d hc hu hd hi
  have hp' : tmps[t]?.getD undef = .pointer (some ⟨b, o, none⟩) := by rw [← hp]; simp
  simp [results, h, hp', asAddr, this]

end Go.Proofs.YthenakdfdpdknaaGreatDoor

/- Zeros behind a slice of bytes that is full: a law of our own; conditions: those typed. -/
namespace Go.Proofs.YthenakdfdpdknaaGreatDoor
open Go.RowKit
set_option linter.unusedVariables false

theorem wpList_append_zeros_full {w : World} {ops : Array Oper} {rest : List Oper} {o : Oper} {a : Act} {Q : Exit → Act → World → Prop} (hgd : o.guard = none) (s x : Operand) (tn : TypeId)
    (ho : o.op = .call { callee := .builtin .append, args := #[s, x], argTypes := #[24, tn] }) (kq kn : IntKind) (htn : Tryz.prog.underlying tn = some (.int kn))
    (b off n : Nat) (l : List UInt8) (hs : a.eval s = .slice (some ⟨b, off, none⟩) n n) (hl : IsB w (some ⟨b, off, none⟩) n n l) (k : Nat) (kI : Int) (hkI : kI = (k : Int)) (hx : a.eval x = .int kq kI) (hk : 0 < k) (hsm : n + k ≤ 100000)
    (h : ∀ c' w', IsB w' (some ⟨w.heap.size, 0, none⟩) (n + k) c' (l ++ List.replicate k 0) → Below w.heap.size w w' → wpList Tryz.prog ops Q rest (a.put o.dst (.slice (some ⟨w.heap.size, 0, none⟩) (n + k) c')) w') : wpList Tryz.prog ops Q (o :: rest) a w := by
  subst hkI
  obtain ⟨i, hi, hz, hsz, hbz⟩ := info_parts rowU8.info
  have hln := hl.1
  have hold : (Builtin.firstCells i.size n (.slice (some ⟨b, off, none⟩) n n)).run Tryz.prog w.drew = .ok (bcells l).toArray w.drew :=
    run_firstCells_some (P := Tryz.prog) w.drew i.size n ⟨b, off, none⟩ n n (bcells l) (by rw [hsz, bcells_length]; omega) (fun j v hv => by
      have hj := (List.getElem?_eq_some_iff.1 hv).1
      rw [bcells_length] at hj
      rcases hl.2.2.2 with ⟨h0, _⟩ | ⟨b', off', h0, _, hc⟩
      · rw [h0] at hj; simp at hj
      · cases h0
        rw [Addr.add_mid]
        have e1 : w.drew.cell? ⟨b, off + j, none⟩ = w.cell? ⟨b, off + j, none⟩ := rfl
        rw [e1, hc j hj]
        have : (bcells l)[j]? = some (.int .u8 l[j].toNat) := by simp [bcells, hj]
        rw [this] at hv
        exact hv)
  have hr := Lib.run_append_grow_zeros (P := Tryz.prog) w 24 tn o.type 5 i _ kq kn rowU8.ht htn hi hz (some ⟨b, off, none⟩) n n (bcells l) hold k hk (by omega) (by omega) (by omega) (by rw [hbz]; omega) (growslice_fits (by omega) (by rw [hbz]; omega))
  have hge := grownCap_ge w (n + k) n 5
  have hcm : grownCap w (n + k) n 5 ≤ maxLen := grownCap_le_maxLen w (n + k) n 5 (by unfold maxLen; omega)
  have hzl := zeroCells_list (.int .u8 0) k rfl
  have hown : (w.drew.alloc (.cells ((bcells l).toArray ++ Builtin.zeroCells (Value.int .u8 0).cells k ++ Builtin.zeroCells (Value.int .u8 0).cells (grownCap w (n + k) n 5 - (n + k))) 5)).ownsRow w.heap.size 5 1
      (.slice (some ⟨w.heap.size, 0, none⟩) (n + k) (grownCap w (n + k) n 5)) (n + k) (bcells (l ++ List.replicate k 0)) := by
    have hlen : (bcells (l ++ List.replicate k 0)).length = n + k := by rw [bcells_length]; simp; omega
    refine ⟨by rw [hlen]; omega, .inr ⟨w.heap.size, _, _, rfl, Nat.le_refl _, heap_new w.drew _, hge, hcm, ?_, ?_⟩⟩
    · simp only [Array.size_append, List.size_toArray, size_zeroCells, bcells_length]
      simp [Value.cells]
      omega
    · simp only [Array.toList_append, List.append_assoc, hzl]
      have e1 : bcells (l ++ List.replicate k 0) = bcells l ++ List.replicate k (.int .u8 0) := by rw [bcells_append, bcells_zeros]
      rw [← List.append_assoc, ← e1, Nat.mul_one, ← hlen]
      exact List.take_left
  have hi' := isB_of_owns hown (by simp; omega)
  refine wpList_plain hgd fun _ hK => ?_
  exact Lib.wp_append_run w s x 24 tn ho _ _ hs hx _ _ hr (hK _ _ (h _ _ hi' (((Below.refl _ _).drew).alloc (by simp) _)))

end Go.Proofs.YthenakdfdpdknaaGreatDoor

/- The package slots: what stands in a place; conditions: those typed. -/
namespace Go.Proofs.YthenakdfdpdknaaGreatDoor
open Go.RowKit
set_option linter.unusedVariables false

def secAt (D : Dsk) (i : Nat) : List UInt8 := D.secs.getD i []
/-- The bytes of k sectors. -/
def run5 (D : Dsk) (at_ : Nat) : Nat → List UInt8
  | 0 => []
  | j + 1 => run5 D at_ j ++ secAt D (at_ + j)
def z54 : List UInt8 := List.replicate 54 0
def numAt (D : Dsk) (p : Nat) : Nat := numOf ((secAt D (p + 5)).take 4)
def manyAt (D : Dsk) (p : Nat) : Nat := numOf (((secAt D (p + 5)).drop 4).take 2)
/-- What stands in the place from sector p on. -/
def place (D : Dsk) (p : Nat) : Nat × List UInt8 :=
  if numAt D p = 0 ∨ 320 < manyAt D p then (0, []) else
  if mkB (numAt D p) ((run5 D p 5).take (manyAt D p)) ++ z54 = secAt D (p + 5) then (numAt D p, (run5 D p 5).take (manyAt D p)) else (0, [])

theorem secAt_length {w : World} {bd bl : Nat} {D : Dsk} (h : IsDisk w bd bl D) (i : Nat) (hi : i < D.secs.length) : (secAt D i).length = 64 := by
  have e1 : secAt D i = D.secs[i] := by unfold secAt; simp [hi]
  rw [e1]
  exact h.secs _ (List.getElem_mem hi)
theorem run5_length {w : World} {bd bl : Nat} {D : Dsk} (h : IsDisk w bd bl D) (p j : Nat) (hj : p + j ≤ D.secs.length) : (run5 D p j).length = 64 * j := by
  induction j with
  | zero => rfl
  | succ j ih =>
    show (run5 D p j ++ secAt D (p + j)).length = _
    rw [List.length_append, ih (by omega), secAt_length h _ (by omega)]
    omega
theorem read_sec (bd bl : Nat) (D : Dsk) (n : Nat) (nI : Int) (w : World) (h : IsDisk w bd bl D) (hI : nI = (n : Int)) (hn : n < D.secs.length) :
    Calls Tryz.prog 91 #[.pointer (some ⟨bd, 0, none⟩), .int .i64 nI] w fun e w' => ∃ g, e = .returned (.tuple #[.slice (some ⟨g, 0, none⟩) 64 64, .int .i64 0]) ∧ Below w.heap.size w w' ∧ IsB w' (some ⟨g, 0, none⟩) 64 64 (secAt D n) := by
  subst hI
  refine (read_good bd bl D n w h hn).mono ?_
  rintro e w' ⟨g, rfl, hb, _, hr⟩
  have e1 : secAt D n = D.secs[n] := by unfold secAt; simp [hn]
  have h64 : (secAt D n).length = 64 := secAt_length h n hn
  rw [← e1] at hr
  have := hr.isB (by rw [h64]; decide)
  rw [h64] at this
  exact ⟨g, rfl, hb, this⟩

theorem IsB.nonnil {w : World} {a : Option Addr} {n c : Nat} {l : List UInt8} (h : IsB w a n c l) (hl : 0 < l.length) : ∃ b off, a = some ⟨b, off, none⟩ := by
  rcases h.2.2.2 with ⟨h, _⟩ | ⟨b, off, h, _⟩
  · rw [h] at hl; simp at hl
  · exact ⟨b, off, h⟩
/-- A slice of a slice. -/
theorem IsB.sub {w : World} {b off n c : Nat} {l : List UInt8} (h : IsB w (some ⟨b, off, none⟩) n c l) (i m c' : Nat) (hi : i + m ≤ l.length) (hm : m ≤ c') (hc : c' ≤ c) : IsB w (some ⟨b, off + i, none⟩) m c' ((l.drop i).take m) := by
  obtain ⟨rfl, h1, h2, h3⟩ := h
  have hl : ((l.drop i).take m).length = m := by simp; omega
  refine ⟨hl.symm, by omega, Nat.le_trans hc h2, ?_⟩
  rcases h3 with ⟨h, _⟩ | ⟨b', off', h, hlt, hcs⟩
  · left; rw [h]; simp
  · cases h
    right
    refine ⟨_, _, rfl, hlt, fun j hj => ?_⟩
    have := hcs (i + j) (by simp at hj; omega)
    rw [show off + i + j = off + (i + j) by omega, this]
    simp

theorem info_what : (Tryz.prog.info? 72).map (·.size) = some 2 := by kernel_rfl
theorem one_what0 : ∀ v ∈ [Value.int .u32 0, .slice none 0 0], v.oneCell' = true := by intro v hv; simp at hv; rcases hv with rfl | rfl <;> rfl
theorem one_what (x : Int) (a : Option Addr) (n c : Nat) : ∀ v ∈ [Value.int .u32 x, .slice a n c], v.oneCell' = true := by intro v hv; simp at hv; rcases hv with rfl | rfl <;> rfl
set_option maxRecDepth 100000 in
set_option maxHeartbeats 4000000 in
theorem sread_any (bd bl : Nat) (D : Dsk) (p : Nat) (pI : Int) (w : World) (h : IsDisk w bd bl D) (hI : pI = (p : Int)) (hp : p + 5 < D.secs.length) :
    Calls Tryz.prog 66 #[.pointer (some ⟨bd, 0, none⟩), .int .i64 pI] w fun e w' => ∃ a c, e = .returned (.agg #[.int .u32 (place D p).1, .slice a (place D p).2.length c]) ∧ Below w.heap.size w w' ∧ IsB w' a (place D p).2.length c (place D p).2 := by
  subst hI
  have hmost := h.most
  have hb0 : Below w.heap.size w (w.alloc (.cells #[.int .u32 0, .slice none 0 0] 72)) := (Below.refl _ _).alloc (Nat.le_refl _) _
  have hcz := heap_new w (.cells #[.int .u32 0, .slice none 0 0] 72 (0, 0))
  have h0 := h.touch (Touch.of_below (S := fun _ => False) hb0) id id
  go_enter Tryz.func66, Tryz.ntmps66
  go_wp2_with fail
  generalize w.alloc (.cells #[.int .u32 0, .slice none 0 0] 72) = w0 at hb0 hcz h0 ⊢
  refine (read_sec bd bl D (p + 5) _ w0 h0 (by omega) hp).mono ?_; rintro e w1 ⟨g, rfl, hb1, hi1⟩
  have hbz : w.heap.size < w0.heap.size := lt_of_heap hcz
  generalize hzz : w.heap.size = bz at hcz hbz ⊢
  have hcz1 := below_heap hb1 hcz hbz
  have h1 := h0.touch (Touch.of_below (S := fun _ => False) hb1) id id
  have HB1 := Lib.hid (hb0.trans (hb1.mono hb0.size))
  have hm64 := secAt_length h0 (p + 5) hp
  have hnum : numAt D p < 4294967296 := by
    have := numOf_lt ((secAt D (p + 5)).take 4)
    rw [List.length_take, hm64] at this
    exact this
  have hmany : manyAt D p < 65536 := by
    have := numOf_lt (((secAt D (p + 5)).drop 4).take 2)
    rw [List.length_take, List.length_drop, hm64] at this
    exact this
  have hsub : IsB w1 (some ⟨g, 0 + 4, none⟩) 60 60 (((secAt D (p + 5)).drop 4).take 60) := hi1.sub 4 60 60 (by omega) (Nat.le_refl _) (by decide)
  have hl60 : (((secAt D (p + 5)).drop 4).take 60).length = 60 := by simp [hm64]
  have e4 : numOf ((secAt D (p + 5)).take 4) = numAt D p := rfl
  have e2 : numOf ((((secAt D (p + 5)).drop 4).take 60).take 2) = manyAt D p := by rw [List.take_take]; rfl
  have E4 := Lib.hid e4
  have E2 := Lib.hid e2
  clear e4 e2
  go_wp2_with fail
  refine (nget_any _ 64 4 64 (secAt D (p + 5)) w1 hi1 (by decide) (by decide) (by omega)).mono ?_; rintro e w2 ⟨rfl, hb2⟩
  rw [E4.out]
  go_wp2_with fail
  refine (nget_any _ 60 2 60 (((secAt D (p + 5)).drop 4).take 60) w2 (hsub.below hb2) (by decide) (by decide) (by omega)).mono ?_; rintro e w3 ⟨rfl, hb3⟩
  rw [E2.out]
  have HB3 := Lib.hid ((HB1.out.trans (hb2.mono HB1.out.size)).trans (hb3.mono (Nat.le_trans HB1.out.size hb2.size)))
  have hb13 := hb2.trans (hb3.mono hb2.size)
  have h3 := h1.touch (Touch.of_below (S := fun _ => False) hb13) id id
  have hi3 := hi1.below hb13
  have hcz3 := below_heap hb13 hcz1 (Nat.lt_of_lt_of_le hbz hb1.size)
  have HZ := Lib.hid hzz
  clear hb2 hb3 hb13 hi1 h1 hcz1 hsub hl60 h0 hcz hb1 hb0 h HB1 E4 E2 hzz
  by_cases hA : numAt D p = 0 ∨ 320 < manyAt D p
  · have hpl : place D p = (0, []) := if_pos hA
    have HPL := Lib.hid hpl
    have f0 : w3.cell? ⟨bz, 0, none⟩ = some (.int .u32 0) := by rw [cell_of_block hcz3]; rfl
    have f1 : w3.cell? ⟨bz, 1, none⟩ = some (.slice none 0 0) := by rw [cell_of_block hcz3]; rfl
    have HA := Lib.hid hA
    clear hA hpl hi3 h3 f0 f1
    by_cases hn0 : numAt D p = 0
    · have d0 : ((numAt D p : Int) == 0) = true := by rw [hn0]; rfl
      clear hn0
      go_wp2_with (first
        | (refine wpList_store_whole rfl 72 (.tmp 4) (.tmp 44) rfl bz [.int .u32 0, .slice none 0 0] _ _ hcz3 rfl rfl rfl info_what one_what0 ?_; intro w4 ht4 hg4)
        | fail)
      refine bodyPost_ret (results_cell rfl _ _ bz 0 rfl [.int .u32 0, .slice none 0 0] _ (rangeAt_row hg4) Tryz.underlying72 rfl info_what) rfl ?_
      rw [HPL.out]
      exact ⟨none, 0, rfl, HB3.out.trans (ht4.below HB3.out.size (fun k hk e => by have := HZ.out; omega)), IsB.nil _⟩
    · have d0 : ((numAt D p : Int) == 0) = false := by rw [beq_eq_false_iff_ne]; omega
      have d1 : decide ((320 : Int) < (manyAt D p : Int)) = true := by rw [decide_eq_true_eq]; have := HA.out; omega
      go_wp2_with (first
        | (refine wpList_store_whole rfl 72 (.tmp 4) (.tmp 44) rfl bz [.int .u32 0, .slice none 0 0] _ _ hcz3 rfl rfl rfl info_what one_what0 ?_; intro w4 ht4 hg4)
        | fail)
      refine bodyPost_ret (results_cell rfl _ _ bz 0 rfl [.int .u32 0, .slice none 0 0] _ (rangeAt_row hg4) Tryz.underlying72 rfl info_what) rfl ?_
      rw [HPL.out]
      exact ⟨none, 0, rfl, HB3.out.trans (ht4.below HB3.out.size (fun k hk e => by have := HZ.out; omega)), IsB.nil _⟩
  have hA0 : numAt D p ≠ 0 := fun h => hA (.inl h)
  have hA1 : manyAt D p ≤ 320 := by omega
  have d0 : ((numAt D p : Int) == 0) = false := by rw [beq_eq_false_iff_ne]; omega
  have d1 : decide ((320 : Int) < (manyAt D p : Int)) = false := by rw [decide_eq_false_iff_not]; omega
  have hbz3 : bz < w3.heap.size := lt_of_heap hcz3
  have HP : Hid (p + 5 < D.secs.length ∧ D.secs.length ≤ 1024) := Lib.hid ⟨hp, hmost⟩
  have HA := Lib.hid hA
  clear hA
  obtain ⟨N, hN⟩ : ∃ N, N = 5 := ⟨_, rfl⟩
  have HN := Lib.hid hN
  clear hN
  go_wp2_with fail
  go_loopw [45, 11] (fun i s wr => ∃ j : Nat, ∃ m b' c', j ≤ 5 ∧ m = 64 * j ∧ i = .int .i64 j ∧ s = .slice b' m c' ∧ wr.ownsRow w3.heap.size 5 1 (.slice b' m c') m (bcells (run5 D p j)) ∧ Below w3.heap.size w3 wr) (fun i _ _ => N - (intOf i).toNat)
  case atStart => exact ⟨0, 0, none, 0, by omega, rfl, rfl, rfl, World.ownsRow_nil _ _ _ _, Below.refl _ _⟩
  case round =>
    obtain ⟨j, m, b', c', hj, hm, rfl, rfl, hown, hbw⟩ := hrel
    have HM := Lib.hid hm
    have hm320 : m ≤ 320 := by omega
    by_cases hlt : j < 5
    · have hd' := h3.touch (Touch.of_below (S := fun _ => False) hbw) id id
      have hr1 : Hid (run5 D p (j + 1) = run5 D p j ++ secAt D (p + j)) := Lib.hid rfl
      have hpj : p + j < D.secs.length := by omega
      clear hm
      go_wp2_with fail
      refine (read_sec bd bl D (p + j) _ wr hd' (by omega) hpj).mono ?_; rintro e w4 ⟨g4, rfl, hb4, hi4⟩
      have h64 := secAt_length hd' (p + j) hpj
      have hown4 := owns_below hown hb4
      have hat4 := hi4.at
      have hbl : (bcells (secAt D (p + j))).length = 64 * 1 := by rw [bcells_length, h64]
      have hb4' := hbw.trans (hb4.mono hbw.size)
      clear hown hi4 hb4 hd' hbw
      go_wp2_with (at_builtin; refine wpList_append_any rowU8 rfl _ _ rfl w3.heap.size _ m (bcells (run5 D p j)) rfl hown4 (some ⟨g4, 0, none⟩) 64 64 (bcells (secAt D (p + j))) rfl hbl hat4 (bcells_one _) (by unfold maxLen; omega) (by omega) hb4'.size ?_; intro b5 c5 w5 hown5 hg5 hat5)
      rw [← bcells_append, ← hr1.out] at hown5
      have hb5 := hb4'.grown hg5 hb4'.size (fun i hi => owns_base hown4 i hi)
      clear hown4 hat4 hg5 hat5 hbl
      go_roundw
      case rel => exact ⟨j + 1, m + 64, b5, c5, by omega, by have := HM.out; omega, by go_num, rfl, hown5, hb5⟩
      case measure => have := HN.out; simp [intOf]; omega
    · have hj5 : j = 5 := by omega
      subst hj5
      have hm5 : m = 320 := by rw [hm]
      subst hm5
      have hlen5 := run5_length h3 p 5 (by omega)
      have hi5 := isB_of_owns hown (by rw [hlen5])
      have hc5 : 320 ≤ c' := by have := hi5.2.1; omega
      obtain ⟨g5, hg5⟩ : ∃ g5, b' = some ⟨g5, 0, none⟩ := by
        rcases hown.2 with ⟨_, h⟩ | ⟨g5, _, _, h, _⟩
        · cases h
        · exact ⟨g5, by cases h; rfl⟩
      subst hg5
      have hgb : w3.heap.size ≤ g5 := owns_base hown g5 rfl
      have hsb := hi5.sub 0 (manyAt D p) (manyAt D p) (by omega) (Nat.le_refl _) (by omega)
      rw [List.drop_zero, Nat.add_zero] at hsb
      have hcr := below_heap hbw hcz3 hbz3
      have hir := hi3.below hbw
      have e32 : IntKind.u32.wrap (numAt D p : Int) = (numAt D p : Int) := by rw [IntKind.wrap_u32]; omega
      have hsl : ((run5 D p 5).take (manyAt D p)).length = manyAt D p := by rw [List.length_take, hlen5]; omega
      clear hm hown hi5 hi3 hcz3 h3
      go_wp2_with fail
      have hsp : Below wr.heap.size wr (wr.alloc (.cells #[.int .u32 (numAt D p), .slice (some ⟨g5, 0, none⟩) (manyAt D p) (manyAt D p)] 72)) := (Below.refl _ _).alloc (Nat.le_refl _) _
      have hv := heap_new wr (.cells #[.int .u32 (numAt D p), .slice (some ⟨g5, 0, none⟩) (manyAt D p) (manyAt D p)] 72 (0, 0))
      have hbr : bz < wr.heap.size := lt_of_heap hcr
      have HBr := Lib.hid (HB3.out.trans (hbw.mono HB3.out.size))
      have HW : Hid (wr.heap[bz]? = some (.cells #[.int .u32 0, .slice none 0 0] 72 (0, 0)) ∧ IsB wr (some ⟨g, 0, none⟩) 64 64 (secAt D (p + 5)) ∧ IsB wr (some ⟨g5, 0, none⟩) (manyAt D p) (manyAt D p) ((run5 D p 5).take (manyAt D p))) := Lib.hid ⟨hcr, hir, hsb⟩
      clear hcr hbw
      generalize wr.alloc (.cells #[.int .u32 (numAt D p), .slice (some ⟨g5, 0, none⟩) (manyAt D p) (manyAt D p)] 72) = v0 at hsp hv ⊢
      refine (mark_any (numAt D p) hnum (some ⟨g5, 0, none⟩) (manyAt D p) (manyAt D p) ((run5 D p 5).take (manyAt D p)) v0 (hsb.below hsp) (by omega)).mono ?_; rintro e v1 ⟨a1, rfl, hb1, hi1⟩
      obtain ⟨mb, mo, rfl⟩ := hi1.nonnil (by rw [mkB_length]; decide)
      clear hir hsb
      go_wp2_with (first
        | (at_builtin; refine wpList_append_zeros_full rfl _ _ 3 rfl .i64 .i64 Tryz.underlying3 mb mo 10 _ rfl hi1 54 54 rfl rfl (by decide) (by decide) ?_; intro c2 v2 hi2 hb2)
        | fail)
      have hb02 := hsp.trans ((hb1.trans (hb2.mono hb1.size)).mono hsp.size)
      have hir := HW.out.2.1.below hb02
      have hb12 := hb1.trans (hb2.mono hb1.size)
      refine (sequal_any _ _ _ _ c2 64 _ _ v2 hi2 hir).mono ?_
      rintro e v3 ⟨rfl, j, rfl⟩
      have hq := below_drewN (Below.refl v2.heap.size v2) j
      have hb03 := hb02.trans (hq.mono hb02.size)
      have hb13 := hb12.trans (hq.mono hb12.size)
      have hv3 := below_heap hb13 hv (lt_of_heap hv)
      have hcr3 := below_heap hb03 HW.out.1 hbr
      have HB33 := Lib.hid (HBr.out.trans (hb03.mono HBr.out.size))
      have hsb3 := Lib.hid (HW.out.2.2.below hb03)
      have HV := Lib.hid hv3
      clear hb02 hir hb12 hq hb03 hb13 hv hi1 hi2 hb1 hb2 hsp HW
      generalize v2.drewN j = v3 at hcr3 HB33 hsb3 HV ⊢
      by_cases hqq : mkB (numAt D p) ((run5 D p 5).take (manyAt D p)) ++ z54 = secAt D (p + 5)
      · have hpl : place D p = (numAt D p, (run5 D p 5).take (manyAt D p)) := by unfold place; rw [if_neg HA.out, if_pos hqq]
        have HPL := Lib.hid hpl
        have hdq : decide (mkB (numAt D p) ((run5 D p 5).take (manyAt D p)) ++ List.replicate 54 0 = secAt D (p + 5)) = true := decide_eq_true hqq
        rw [hdq]
        clear hqq hdq hpl
        go_wp2_with (first
          | (refine wpList_load_mid rfl 72 (.tmp 15) rfl wr.heap.size 0 rfl [.int .u32 (numAt D p), .slice (some ⟨g5, 0, none⟩) (manyAt D p) (manyAt D p)] _ (rangeAt_row HV.out) Tryz.underlying72 rfl info_what ?_)
          | (refine wpList_store_whole rfl 72 (.tmp 4) (.tmp 74) rfl bz [.int .u32 (numAt D p), .slice (some ⟨g5, 0, none⟩) (manyAt D p) (manyAt D p)] _ _ hcr3 rfl rfl rfl info_what (one_what _ _ _ _) ?_; intro w4 ht4 hg4)
          | fail)
        refine bodyPost_ret (results_cell rfl _ _ bz 0 rfl [.int .u32 (numAt D p), .slice (some ⟨g5, 0, none⟩) (manyAt D p) (manyAt D p)] _ (rangeAt_row hg4) Tryz.underlying72 rfl info_what) rfl ?_
        rw [HPL.out]
        refine ⟨some ⟨g5, 0, none⟩, manyAt D p, by rw [hsl], HB33.out.trans (ht4.below HB33.out.size (fun k hk e => by have := HZ.out; omega)), ?_⟩
        rw [hsl]
        exact hsb3.out.touch ht4 (fun b off h _ e => by cases h; omega)
      · have hpl : place D p = (0, []) := by unfold place; rw [if_neg HA.out, if_neg hqq]
        have HPL := Lib.hid hpl
        have hdq : decide (mkB (numAt D p) ((run5 D p 5).take (manyAt D p)) ++ List.replicate 54 0 = secAt D (p + 5)) = false := decide_eq_false hqq
        rw [hdq]
        clear hqq hdq hpl
        go_wp2_with (first
          | (refine wpList_store_whole rfl 72 (.tmp 4) (.tmp 73) rfl bz [.int .u32 0, .slice none 0 0] _ _ hcr3 rfl rfl rfl info_what one_what0 ?_; intro w4 ht4 hg4)
          | fail)
        refine bodyPost_ret (results_cell rfl _ _ bz 0 rfl [.int .u32 0, .slice none 0 0] _ (rangeAt_row hg4) Tryz.underlying72 rfl info_what) rfl ?_
        rw [HPL.out]
        exact ⟨none, 0, rfl, HB33.out.trans (ht4.below HB33.out.size (fun k hk e => by have := HZ.out; omega)), IsB.nil _⟩

end Go.Proofs.YthenakdfdpdknaaGreatDoor

/- The package slots: the newest of both places; conditions: those typed. -/
namespace Go.Proofs.YthenakdfdpdknaaGreatDoor
open Go.RowKit
set_option linter.unusedVariables false

/-- The newest of both, and where the other place begins. -/
def newestW (D : Dsk) (p : Nat) : (Nat × List UInt8) × Nat :=
  if (place D p).1 < (place D (p + 6)).1 then (place D (p + 6), p) else if 0 < (place D p).1 then (place D p, p + 6) else ((0, []), p)

/-- The variable l of newest, when j of its two are read. -/
structure NewSt (w : World) (b6 : Nat) (x0 x1 : Nat × List UInt8) (a0 : Option Addr) (c0 : Nat) (a1 : Option Addr) (c1 : Nat) : Prop where
  row : w.heap[b6]? = some (.cells #[.int .u32 x0.1, .slice a0 x0.2.length c0, .int .u32 x1.1, .slice a1 x1.2.length c1] 83 (0, 0))
  i0 : IsB w a0 x0.2.length c0 x0.2
  i1 : IsB w a1 x1.2.length c1 x1.2
theorem NewSt.below {w w' : World} {b6 : Nat} {x0 x1 : Nat × List UInt8} {a0 : Option Addr} {c0 : Nat} {a1 : Option Addr} {c1 : Nat} (h : NewSt w b6 x0 x1 a0 c0 a1 c1) (hb : Below w.heap.size w w') : NewSt w' b6 x0 x1 a0 c0 a1 c1 :=
  ⟨below_heap hb h.row (lt_of_heap h.row), h.i0.below hb, h.i1.below hb⟩
theorem place_lt (D : Dsk) (p : Nat) (h : (secAt D (p + 5)).length = 64) : (place D p).1 < 4294967296 := by
  have hnum : numAt D p < 4294967296 := by
    have := numOf_lt ((secAt D (p + 5)).take 4)
    rw [List.length_take, h] at this
    exact this
  unfold place
  split
  · decide
  · split
    · exact hnum
    · decide

set_option linter.unusedSimpArgs false
theorem IsB.off_block {w : World} {a : Option Addr} {n c k : Nat} {l : List UInt8} {C : Array Value} {ty : TypeId} (h : IsB w a n c l) (hC : w.heap[k]? = some (.cells C ty (0, 0))) (hx : ∀ (i : Nat) (v : Value), C[i]? = some v → ¬ ∃ x : Int, v = Value.int .u8 x) : ∀ b off, a = some ⟨b, off, none⟩ → l ≠ [] → ¬ (b = k) := by
  intro b off ha hl hb
  subst hb
  rcases h.2.2.2 with ⟨h0, _⟩ | ⟨b', off', h0, hlt, hc⟩
  · exact hl h0
  · rw [ha] at h0
    cases h0
    have := hc 0 (List.length_pos_iff.2 hl)
    rw [cell_of_block hC] at this
    exact hx _ _ this ⟨((l[0]'(List.length_pos_iff.2 hl)).toNat : Int), rfl⟩

theorem no_bytes (n0 n1 : Int) (a0 a1 : Option Addr) (l0 c0 l1 c1 : Nat) : ∀ (i : Nat) (v : Value), (#[Value.int .u32 n0, .slice a0 l0 c0, .int .u32 n1, .slice a1 l1 c1] : Array Value)[i]? = some v → ¬ ∃ x : Int, v = Value.int .u8 x := by
  rintro i v h ⟨x, rfl⟩
  match i, h with
  | 0, h => simp at h
  | 1, h => simp at h
  | 2, h => simp at h
  | 3, h => simp at h
  | i + 4, h => simp at h
theorem NewSt.put0 {w w' : World} {b6 : Nat} {x0 x1 y : Nat × List UInt8} {a0 : Option Addr} {c0 : Nat} {a1 : Option Addr} {c1 : Nat} {a : Option Addr} {c : Nat} (h : NewSt w b6 x0 x1 a0 c0 a1 c1) (hi : IsB w a y.2.length c y.2) (ht : Touch (fun k => k = b6) w w')
    (hg : w'.heap[b6]? = some (.cells ((#[Value.int .u32 x0.1, .slice a0 x0.2.length c0, .int .u32 x1.1, .slice a1 x1.2.length c1] : Array Value).toList.take 0 ++ [Value.int .u32 y.1, .slice a y.2.length c] ++ (#[Value.int .u32 x0.1, .slice a0 x0.2.length c0, .int .u32 x1.1, .slice a1 x1.2.length c1] : Array Value).toList.drop (0 + [Value.int .u32 y.1, .slice a y.2.length c].length)).toArray 83 (0, 0))) : NewSt w' b6 y x1 a c a1 c1 :=
  ⟨hg, hi.touch ht (hi.off_block h.row (no_bytes _ _ _ _ _ _ _ _)), h.i1.touch ht (h.i1.off_block h.row (no_bytes _ _ _ _ _ _ _ _))⟩
theorem NewSt.put1 {w w' : World} {b6 : Nat} {x0 x1 y : Nat × List UInt8} {a0 : Option Addr} {c0 : Nat} {a1 : Option Addr} {c1 : Nat} {a : Option Addr} {c : Nat} (h : NewSt w b6 x0 x1 a0 c0 a1 c1) (hi : IsB w a y.2.length c y.2) (ht : Touch (fun k => k = b6) w w')
    (hg : w'.heap[b6]? = some (.cells ((#[Value.int .u32 x0.1, .slice a0 x0.2.length c0, .int .u32 x1.1, .slice a1 x1.2.length c1] : Array Value).toList.take 2 ++ [Value.int .u32 y.1, .slice a y.2.length c] ++ (#[Value.int .u32 x0.1, .slice a0 x0.2.length c0, .int .u32 x1.1, .slice a1 x1.2.length c1] : Array Value).toList.drop (2 + [Value.int .u32 y.1, .slice a y.2.length c].length)).toArray 83 (0, 0))) : NewSt w' b6 x0 y a0 c0 a c :=
  ⟨hg, h.i0.touch ht (h.i0.off_block h.row (no_bytes _ _ _ _ _ _ _ _)), hi.touch ht (hi.off_block h.row (no_bytes _ _ _ _ _ _ _ _))⟩

theorem zero_bytes : ∀ (i : Nat) (v : Value), (#[Value.int .u32 0, .slice none 0 0] : Array Value)[i]? = some v → ¬ ∃ x : Int, v = Value.int .u8 x := by
  rintro i v h ⟨x, rfl⟩
  match i, h with
  | 0, h => simp at h
  | 1, h => simp at h
  | i + 2, h => simp at h

set_option maxRecDepth 100000 in
set_option maxHeartbeats 4000000 in
theorem newest_any (bd bl : Nat) (D : Dsk) (p : Nat) (pI : Int) (w : World) (h : IsDisk w bd bl D) (hI : pI = (p : Int)) (hp : p + 12 ≤ D.secs.length) :
    Calls Tryz.prog 29 #[.pointer (some ⟨bd, 0, none⟩), .int .i64 pI] w fun e w' => ∃ a c, e = .returned (.tuple #[.agg #[.int .u32 (newestW D p).1.1, .slice a (newestW D p).1.2.length c], .int .i64 (newestW D p).2]) ∧ Below w.heap.size w w' ∧ IsB w' a (newestW D p).1.2.length c (newestW D p).1.2 := by
  subst hI
  have hmost := h.most
  have hb0 : Below w.heap.size w ((w.alloc (.cells #[.int .u32 0, .slice none 0 0] 72)).alloc (.cells #[.int .u32 0, .slice none 0 0, .int .u32 0, .slice none 0 0] 83)) := ((Below.refl _ _).alloc (Nat.le_refl _) _).alloc (by simp) _
  have hcz : ((w.alloc (.cells #[.int .u32 0, .slice none 0 0] 72)).alloc (.cells #[.int .u32 0, .slice none 0 0, .int .u32 0, .slice none 0 0] 83)).heap[w.heap.size]? = some (.cells #[.int .u32 0, .slice none 0 0] 72 (0, 0)) := below_heap (B := w.heap.size + 1) ((Below.refl _ _).alloc (by simp) _) (heap_new w _) (by omega)
  have hl6 : NewSt ((w.alloc (.cells #[.int .u32 0, .slice none 0 0] 72)).alloc (.cells #[.int .u32 0, .slice none 0 0, .int .u32 0, .slice none 0 0] 83)) (w.heap.size + 1) (0, []) (0, []) none 0 none 0 := ⟨by
    have := heap_new (w.alloc (.cells #[.int .u32 0, .slice none 0 0] 72)) (.cells #[.int .u32 0, .slice none 0 0, .int .u32 0, .slice none 0 0] 83 (0, 0))
    rw [show (w.alloc (.cells #[.int .u32 0, .slice none 0 0] 72)).heap.size = w.heap.size + 1 by simp] at this
    exact this, IsB.nil _, IsB.nil _⟩
  have h0 := h.touch (Touch.of_below (S := fun _ => False) hb0) id id
  go_enter Tryz.func29, Tryz.ntmps29
  go_wp2_with fail
  generalize (w.alloc (.cells #[.int .u32 0, .slice none 0 0] 72)).alloc (.cells #[.int .u32 0, .slice none 0 0, .int .u32 0, .slice none 0 0] 83) = w0 at hb0 hcz hl6 h0 ⊢
  obtain ⟨N, hN⟩ : ∃ N, N = 2 := ⟨_, rfl⟩
  have HN := Lib.hid hN
  clear hN h
  obtain ⟨bz, hbz⟩ : ∃ bz, bz = w.heap.size := ⟨_, rfl⟩
  obtain ⟨b6, hb6⟩ : ∃ b6, b6 = w.heap.size + 1 := ⟨_, rfl⟩
  rw [← hb6] at hl6 ⊢
  rw [← hbz] at hcz ⊢
  have HZ : Hid (w.heap.size ≤ bz ∧ w.heap.size ≤ b6 ∧ bz ≠ b6) := Lib.hid (by omega)
  clear hbz hb6
  have HP : Hid (p + 12 ≤ D.secs.length ∧ D.secs.length ≤ 1024) := Lib.hid ⟨hp, hmost⟩
  go_loopw [8] (fun i wr => ∃ j : Nat, ∃ a0 c0 a1 c1, j ≤ 2 ∧ i = .int .i64 j ∧ Hid (IsDisk wr bd bl D) ∧ Hid (NewSt wr b6 (if 1 ≤ j then place D p else (0, [])) (if 2 ≤ j then place D (p + 6) else (0, [])) a0 c0 a1 c1) ∧ Hid (Below w.heap.size w wr) ∧ Hid (wr.heap[bz]? = some (.cells #[.int .u32 0, .slice none 0 0] 72 (0, 0)))) (fun i _ => N - (intOf i).toNat)
  case atStart => exact ⟨0, none, 0, none, 0, by omega, rfl, Lib.hid h0, Lib.hid hl6, Lib.hid hb0, Lib.hid hcz⟩
  case round =>
    obtain ⟨j, a0, c0, a1, c1, hj, rfl, hd, hst, hbw, hcz'⟩ := hrel
    by_cases hlt : j < 2
    · rcases (show j = 0 ∨ j = 1 by omega) with rfl | rfl
      · have hdd := hd.out
        have hss := hst.out
        have hww := hbw.out
        have hzz := hcz'.out
        simp only [Nat.reduceLeDiff, if_true, if_false, Nat.le_refl] at hss
        clear hst
        go_wp2_with fail
        refine (sread_any bd bl D (p) _ wr hdd (by omega) (by have := HP.out; omega)).mono ?_; rintro e w2 ⟨a2, c2, rfl, hb2, hi2⟩
        have hss2 := hss.below hb2
        have hd2 := hdd.touch (Touch.of_below (S := fun _ => False) hb2) id id
        have hz2 := below_heap hb2 hzz (lt_of_heap hzz)
        have hw2 := hww.trans (hb2.mono hww.size)
        clear hss hdd hzz hww hb2
        go_wp2_with (first
          | (refine wpList_store_part rfl 72 (.tmp 18) (.tmp 17) rfl b6 0 [.int .u32 (place D (p)).1, .slice a2 (place D (p)).2.length c2] _ _ hss2.row rfl rfl (by simp) info_what (one_what _ _ _ _) ?_; intro w3 ht3 hg3)
          | fail)
        have hst3 := hss2.put0 hi2 ht3 hg3
        have hd3 := hd2.touch ht3 (fun e => by have h1 := hd2.cells; have h2 := hss2.row; rw [e, h2] at h1; simp at h1) (fun e => by have h1 := hd2.row; have h2 := hss2.row; rw [e, h2] at h1; have := (Obj.cells.inj (Option.some.inj h1)).2.1; revert this; decide)
        have hz3 := ht3.heap hz2 HZ.out.2.2
        have hw3 := hw2.trans (ht3.below hw2.size (fun k hk e => by have := HZ.out; omega))
        go_roundw
        case rel => exact ⟨1, a2, c2, a1, c1, by omega, rfl, Lib.hid hd3, Lib.hid (by simpa using hst3), Lib.hid hw3, Lib.hid hz3⟩
        case measure => have := HN.out; simp [intOf]; omega
      · have hdd := hd.out
        have hss := hst.out
        have hww := hbw.out
        have hzz := hcz'.out
        simp only [Nat.reduceLeDiff, if_true, if_false, Nat.le_refl] at hss
        clear hst
        go_wp2_with fail
        refine (sread_any bd bl D (p + 6) _ wr hdd (by omega) (by have := HP.out; omega)).mono ?_; rintro e w2 ⟨a2, c2, rfl, hb2, hi2⟩
        have hss2 := hss.below hb2
        have hd2 := hdd.touch (Touch.of_below (S := fun _ => False) hb2) id id
        have hz2 := below_heap hb2 hzz (lt_of_heap hzz)
        have hw2 := hww.trans (hb2.mono hww.size)
        clear hss hdd hzz hww hb2
        go_wp2_with (first
          | (refine wpList_store_part rfl 72 (.tmp 18) (.tmp 17) rfl b6 2 [.int .u32 (place D (p + 6)).1, .slice a2 (place D (p + 6)).2.length c2] _ _ hss2.row rfl rfl (by simp) info_what (one_what _ _ _ _) ?_; intro w3 ht3 hg3)
          | fail)
        have hst3 := hss2.put1 hi2 ht3 hg3
        have hd3 := hd2.touch ht3 (fun e => by have h1 := hd2.cells; have h2 := hss2.row; rw [e, h2] at h1; simp at h1) (fun e => by have h1 := hd2.row; have h2 := hss2.row; rw [e, h2] at h1; have := (Obj.cells.inj (Option.some.inj h1)).2.1; revert this; decide)
        have hz3 := ht3.heap hz2 HZ.out.2.2
        have hw3 := hw2.trans (ht3.below hw2.size (fun k hk e => by have := HZ.out; omega))
        go_roundw
        case rel => exact ⟨2, a0, c0, a2, c2, by omega, rfl, Lib.hid hd3, Lib.hid (by simpa using hst3), Lib.hid hw3, Lib.hid hz3⟩
        case measure => have := HN.out; simp [intOf]; omega
    · have hj2 : j = 2 := by omega
      subst hj2
      have hst' : NewSt wr b6 (place D p) (place D (p + 6)) a0 c0 a1 c1 := hst.out
      have hww := hbw.out
      have hzz := hcz'.out
      have hob0 := hst'.i0.off_block hzz zero_bytes
      have hob1 := hst'.i1.off_block hzz zero_bytes
      have r0 : Hid (wr.rangeAt b6 0 [.int .u32 (place D p).1, .slice a0 (place D p).2.length c0]) := Lib.hid (rangeAt_mid hst'.row (by simp))
      have r2 : Hid (wr.rangeAt b6 2 [.int .u32 (place D (p + 6)).1, .slice a1 (place D (p + 6)).2.length c1]) := Lib.hid (rangeAt_mid hst'.row (by simp))
      have g0 : wr.cell? ⟨b6, 0, none⟩ = some (.int .u32 (place D p).1) := by rw [cell_of_block hst'.row]; rfl
      have g2 : wr.cell? ⟨b6, 2, none⟩ = some (.int .u32 (place D (p + 6)).1) := by rw [cell_of_block hst'.row]; rfl
      by_cases hlt : (place D p).1 < (place D (p + 6)).1
      · have HNW : Hid (newestW D p = (place D (p + 6), p)) := Lib.hid (if_pos hlt)
        have d1 : decide ((place D p).1 < (place D (p + 6)).1) = true := decide_eq_true hlt
        clear hlt
        go_wp2_with (first
          | (refine wpList_load_mid rfl 72 (.tmp 28) rfl b6 2 rfl [.int .u32 (place D (p + 6)).1, .slice a1 (place D (p + 6)).2.length c1] _ r2.out Tryz.underlying72 rfl info_what ?_)
          | (refine wpList_store_whole rfl 72 (.tmp 4) (.tmp 29) rfl bz [.int .u32 (place D (p + 6)).1, .slice a1 (place D (p + 6)).2.length c1] _ _ hzz rfl rfl rfl info_what (one_what _ _ _ _) ?_; intro w4 ht4 hg4)
          | fail)
        refine bodyPost_ret (results_cell_tmp rfl _ _ bz 0 rfl [.int .u32 (place D (p + 6)).1, .slice a1 (place D (p + 6)).2.length c1] _ (rangeAt_row hg4) Tryz.underlying72 rfl info_what) rfl ?_
        rw [HNW.out]
        have hbz4 := hww.trans (ht4.below hww.size (fun k hk e => by have := HZ.out; omega))
        exact ⟨a1, c1, rfl, hbz4, hst'.i1.touch ht4 hob1⟩
      have d1 : decide ((place D p).1 < (place D (p + 6)).1) = false := decide_eq_false hlt
      by_cases hp0 : 0 < (place D p).1
      · have HNW : Hid (newestW D p = (place D p, p + 6)) := Lib.hid (by unfold newestW; rw [if_neg hlt, if_pos hp0])
        have d2 : decide (0 < (place D p).1) = true := decide_eq_true hp0
        clear hlt hp0
        have hP1 := HP.out.1
        have hP2 := HP.out.2
        go_wp2_with (first
          | (refine wpList_load_mid rfl 72 (.tmp 36) rfl b6 0 rfl [.int .u32 (place D p).1, .slice a0 (place D p).2.length c0] _ r0.out Tryz.underlying72 rfl info_what ?_)
          | (refine wpList_store_whole rfl 72 (.tmp 4) (.tmp 37) rfl bz [.int .u32 (place D p).1, .slice a0 (place D p).2.length c0] _ _ hzz rfl rfl rfl info_what (one_what _ _ _ _) ?_; intro w4 ht4 hg4)
          | fail)
        refine bodyPost_ret (results_cell_tmp rfl _ _ bz 0 rfl [.int .u32 (place D p).1, .slice a0 (place D p).2.length c0] _ (rangeAt_row hg4) Tryz.underlying72 rfl info_what) rfl ?_
        rw [HNW.out]
        have hbz4 := hww.trans (ht4.below hww.size (fun k hk e => by have := HZ.out; omega))
        exact ⟨a0, c0, by simp, hbz4, hst'.i0.touch ht4 hob0⟩
      · have HNW : Hid (newestW D p = ((0, []), p)) := Lib.hid (by unfold newestW; rw [if_neg hlt, if_neg hp0])
        have d2 : decide (0 < (place D p).1) = false := decide_eq_false hp0
        clear hlt hp0
        go_wp2_with (first
          | (refine wpList_store_whole rfl 72 (.tmp 4) (.tmp 40) rfl bz [.int .u32 0, .slice none 0 0] _ _ hzz rfl rfl rfl info_what one_what0 ?_; intro w4 ht4 hg4)
          | fail)
        refine bodyPost_ret (results_cell_tmp rfl _ _ bz 0 rfl [.int .u32 0, .slice none 0 0] _ (rangeAt_row hg4) Tryz.underlying72 rfl info_what) rfl ?_
        rw [HNW.out]
        have hbz4 := hww.trans (ht4.below hww.size (fun k hk e => by have := HZ.out; omega))
        exact ⟨none, 0, rfl, hbz4, IsB.nil _⟩

end Go.Proofs.YthenakdfdpdknaaGreatDoor

/- disks: what its functions answer where there is no disk; conditions: those typed. -/
namespace Go.Proofs.YthenakdfdpdknaaGreatDoor
open Go.RowKit
set_option linter.unusedVariables false

/-- a disk that no call made. -/
def IsZero (w : World) (bz : Nat) : Prop := w.heap[bz]? = some (.cells #[.slice none 0 0, .int .i64 0, .bool false, .int .i64 0] 62 (0, 0))
theorem IsZero.field {w : World} {bz : Nat} (h : IsZero w bz) : w.cell? ⟨bz, 0, none⟩ = some (.slice none 0 0) ∧ w.cell? ⟨bz, 1, none⟩ = some (.int .i64 0) ∧ w.cell? ⟨bz, 2, none⟩ = some (.bool false) ∧ w.cell? ⟨bz, 3, none⟩ = some (.int .i64 0) := by
  refine ⟨?_, ?_, ?_, ?_⟩ <;> rw [cell_of_block h] <;> rfl
theorem IsZero.below {w w' : World} {bz : Nat} (h : IsZero w bz) (hb : Below w.heap.size w w') : IsZero w' bz := below_heap hb h (lt_of_heap h)

set_option maxHeartbeats 1000000 in
theorem read_nil (n : Int) (w : World) :
    Calls Tryz.prog 91 #[.pointer none, .int .i64 n] w fun e w' => e = .returned (.tuple #[.slice none 0 0, .int .i64 2]) ∧ Below w.heap.size w w' := by
  go_enter Tryz.func91, Tryz.ntmps91
  go_wp2
  go_ret2
  exact ⟨rfl, Below.refl _ _⟩

set_option maxHeartbeats 1000000 in
theorem read_zero (n : Int) (bz : Nat) (w : World) (h : IsZero w bz) :
    Calls Tryz.prog 91 #[.pointer (some ⟨bz, 0, none⟩), .int .i64 n] w fun e w' => e = .returned (.tuple #[.slice none 0 0, .int .i64 2]) ∧ Below w.heap.size w w' := by
  obtain ⟨f0, f1, f2, f3⟩ := h.field
  have hlt := lt_of_heap h
  clear h
  go_enter Tryz.func91, Tryz.ntmps91
  go_wp2
  go_ret2
  exact ⟨rfl, Below.refl _ _⟩

set_option maxHeartbeats 1000000 in
theorem copy_nil (w : World) :
    Calls Tryz.prog 14 #[.pointer none] w fun e w' => e = .returned (.tuple #[.pointer none, .int .i64 2]) ∧ Below w.heap.size w w' := by
  go_enter Tryz.func14, Tryz.ntmps14
  go_wp2
  go_ret2
  exact ⟨rfl, Below.refl _ _⟩

set_option maxHeartbeats 1000000 in
theorem copy_zero (bz : Nat) (w : World) (h : IsZero w bz) :
    Calls Tryz.prog 14 #[.pointer (some ⟨bz, 0, none⟩)] w fun e w' => e = .returned (.tuple #[.pointer none, .int .i64 2]) ∧ Below w.heap.size w w' := by
  obtain ⟨f0, f1, f2, f3⟩ := h.field
  have hlt := lt_of_heap h
  clear h
  go_enter Tryz.func14, Tryz.ntmps14
  go_wp2
  go_ret2
  exact ⟨rfl, Below.refl _ _⟩

set_option maxHeartbeats 1000000 in
theorem write_nil (n : Int) (a : Option Addr) (m c : Nat) (w : World) :
    Calls Tryz.prog 12 #[.pointer none, .int .i64 n, .slice a m c] w fun e w' => e = .returned (.int .i64 2) ∧ Below w.heap.size w w' := by
  go_enter Tryz.func12, Tryz.ntmps12
  go_wp2
  go_ret
  exact ⟨rfl, ((Below.refl _ _).alloc (Nat.le_refl _) _).alloc (by simp) _⟩

set_option maxHeartbeats 1000000 in
theorem write_zero (n : Int) (a : Option Addr) (m c : Nat) (bz : Nat) (w : World) (h : IsZero w bz) :
    Calls Tryz.prog 12 #[.pointer (some ⟨bz, 0, none⟩), .int .i64 n, .slice a m c] w fun e w' => e = .returned (.int .i64 2) ∧ Below w.heap.size w w' := by
  obtain ⟨f0, f1, f2, f3⟩ := h.field
  have hlt := lt_of_heap h
  clear h
  go_enter Tryz.func12, Tryz.ntmps12
  go_wp2
  go_ret
  exact ⟨rfl, ((Below.refl _ _).alloc (Nat.le_refl _) _).alloc (by simp) _⟩

set_option maxHeartbeats 1000000 in
theorem fuse_nil (n : Int) (w : World) :
    Calls Tryz.prog 10 #[.pointer none, .int .i64 n] w fun e w' => e = .returned (.int .i64 2) ∧ Below w.heap.size w w' := by
  go_enter Tryz.func10, Tryz.ntmps10
  go_wp2
  go_ret
  exact ⟨rfl, Below.refl _ _⟩

set_option maxHeartbeats 1000000 in
theorem fuse_zero (n : Int) (bz : Nat) (w : World) (h : IsZero w bz) :
    Calls Tryz.prog 10 #[.pointer (some ⟨bz, 0, none⟩), .int .i64 n] w fun e w' => e = .returned (.int .i64 2) ∧ Below w.heap.size w w' := by
  obtain ⟨f0, f1, f2, f3⟩ := h.field
  have hlt := lt_of_heap h
  clear h
  go_enter Tryz.func10, Tryz.ntmps10
  go_wp2
  go_ret
  exact ⟨rfl, Below.refl _ _⟩





set_option maxHeartbeats 1000000 in
theorem len_zero (bz : Nat) (w : World) (h : IsZero w bz) :
    Calls Tryz.prog 65 #[.pointer (some ⟨bz, 0, none⟩)] w fun e w' => e = .returned (.int .i64 0) ∧ Below w.heap.size w w' := by
  obtain ⟨f0, f1, f2, f3⟩ := h.field
  have hlt := lt_of_heap h
  clear h
  go_enter Tryz.func65, Tryz.ntmps65
  go_wp2
  go_ret
  exact ⟨rfl, Below.refl _ _⟩

theorem len_nilB (w : World) : Calls Tryz.prog 65 #[.pointer none] w fun e w' => e = .returned (.int .i64 0) ∧ Below w.heap.size w w' := (len_nil w).mono fun _ _ ⟨h1, h2⟩ => ⟨h1, h2 ▸ Below.refl _ _⟩

end Go.Proofs.YthenakdfdpdknaaGreatDoor
