/- A book of lists of bytes, in memory; conditions: those typed. -/
import Derived.Test.YtppmpgkkegldnaaDoorApp1
import Derived.Test.YtppmpgkkegldnaaDoorHeap
import Derived.Deep.RegionHeld3
namespace Go.Proofs.YtppmpgkkegldnaaDoor
open Go.RowKit
set_option linter.unusedVariables false
set_option maxRecDepth 100000

/-- A slice of bytes, as a value. -/
structure Hd where
  a : Option Addr
  n : Nat
  c : Nat
def Hd.val (h : Hd) : Value := .slice h.a h.n h.c
/-- A list that was answered, what it is grown to, its number. -/
structure Hl where
  l : Hd
  g : Hd
  m : Nat
def Hl.cells (x : Hl) : List Value := [x.l.val, x.g.val, .int .i64 x.m]
def hcells (H : List Hl) : List Value := H.flatMap Hl.cells
theorem hcells_length (H : List Hl) : (hcells H).length = H.length * 3 := by
  induction H with
  | nil => rfl
  | cons x H ih => show (x.cells ++ hcells H).length = _; rw [List.length_append, ih]; show 3 + H.length * 3 = (H.length + 1) * 3; omega
theorem hcells_get (H : List Hl) (i : Nat) (hi : i < H.length) (j : Nat) (hj : j < 3) : (hcells H)[3 * i + j]? = (H[i].cells)[j]? := by
  induction H generalizing i with
  | nil => simp at hi
  | cons x H ih =>
    show (x.cells ++ hcells H)[3 * i + j]? = _
    have hx : x.cells.length = 3 := rfl
    cases i with
    | zero => rw [List.getElem?_append_left (by omega)]; simp
    | succ i =>
      rw [List.getElem?_append_right (by omega), hx, show 3 * (i + 1) + j - 3 = 3 * i + j by omega, ih i (by simpa using hi)]
      rfl
theorem hcells_snoc (H : List Hl) (x : Hl) : hcells (H ++ [x]) = hcells H ++ x.cells := by unfold hcells; simp
theorem hcells_set (H : List Hl) (i : Nat) (hi : i < H.length) (g : Hd) : hcells (H.set i { H[i] with g := g }) = (hcells H).set (3 * i + 1) g.val := by
  induction H generalizing i with
  | nil => simp at hi
  | cons x H ih =>
    cases i with
    | zero => rfl
    | succ i =>
      have hi' : i < H.length := by simpa using hi
      show x.cells ++ hcells (H.set i _) = (x.cells ++ hcells H).set (3 * (i + 1) + 1) g.val
      have e := ih i hi'
      rw [List.set_append_right _ _ (by show 3 ≤ _; omega)]
      rw [show 3 * (i + 1) + 1 - x.cells.length = 3 * i + 1 by show 3 * (i + 1) + 1 - 3 = _; omega, ← e]
      rfl

theorem infoHl : (Tryd.prog.info? 68).map (fun i => (i.zero, i.size, i.bytes)) = some (some (.agg #[.slice none 0 0, .slice none 0 0, .int .i64 0]), 3, 56) := by kernel_rfl
theorem rowHl : RowTy Tryd.prog 31 68 3 56 (.agg #[.slice none 0 0, .slice none 0 0, .int .i64 0]) := ⟨Tryd.underlying31, infoHl, rfl, by decide⟩

def mk (m : Nat) : UInt8 := UInt8.ofNat m
theorem mk_eq (m : Nat) : ((m : Int) % 256) = ((mk m).toNat : Int) := by simp [mk]
theorem markByte_any (m : Nat) (w : World) (hm : m < 4611686018427387904) : Calls Tryd.prog 57 #[.int .i64 m] w fun e w' => e = .returned (.int .u8 (mk m).toNat) ∧ w = w' := by
  have h := Lib.hid (mk_eq m)
  go_enter Tryd.func57, Tryd.ntmps57
  go_wp2
  go_ret
  exact ⟨by rw [h.out]; rfl, rfl⟩
theorem isByte_any (x : UInt8) (m : Nat) (w : World) (hm : m < 4611686018427387904) : Calls Tryd.prog 66 #[.int .u8 x.toNat, .int .i64 m] w fun e w' => e = .returned (.bool (decide (x = mk m))) ∧ w = w' := by
  have h := Lib.hid (mk_eq m)
  have hq : (((x.toNat : Int)) == ((mk m).toNat : Int)) = decide (x = mk m) := by
    rw [Bool.eq_iff_iff, beq_iff_eq, decide_eq_true_eq]
    exact ⟨fun h => UInt8.toNat_inj.1 (by omega), fun h => by rw [h]⟩
  have HQ := Lib.hid hq
  clear hq
  go_enter Tryd.func66, Tryd.ntmps66
  go_wp2
  go_ret
  exact ⟨by rw [h.out, HQ.out]; rfl, rfl⟩

/-- Where a list lies: its block begins with it, from B on. -/
def HOk (w : World) (B : Nat) (h : Hd) : Prop := ∃ cur, S1 w h.a h.n h.c cur ∧ ∀ g, h.a = some ⟨g, 0, none⟩ → B ≤ g
/-- All its bytes are x. -/
def HFill (w : World) (h : Hd) (x : UInt8) : Prop := ∀ i, i < h.n → ∃ g, h.a = some ⟨g, 0, none⟩ ∧ w.cell? ⟨g, i, none⟩ = some (.int .u8 x.toNat)
def bookC (N : Nat) (bs : Value) : Array Value := #[.int .i64 N, bs, .slice none 0 0, .slice none 0 0, .slice none 0 0, .slice none 0 0, .slice none 0 0, .slice none 0 0, .slice none 0 0, .slice none 0 0]
/-- A book in memory. -/
structure Bk (w : World) (B bk : Nat) (N : Nat) (bs : Value) (H : List Hl) : Prop where
  le : B ≤ bk
  book : w.heap[bk]? = some (.cells (bookC N bs) 41 (0, 0))
  row : w.ownsRow B 68 3 bs H.length (hcells H)
  ok : ∀ i (h : i < H.length), HOk w B H[i].l
  apart : ∀ i j (hi : i < H.length) (hj : j < H.length), i ≠ j → ∀ g, H[i].l.a = some ⟨g, 0, none⟩ → H[j].l.a ≠ some ⟨g, 0, none⟩
  num : ∀ i (h : i < H.length), H[i].m < 4611686018427387904
  few : H.length ≤ 1000000

/-- Blocks of other kinds than a book's. -/
def Other (w : World) (S : Nat → Prop) : Prop := ∀ k, S k → ∀ cur t fz, w.heap[k]? = some (.cells cur t fz) → t ≠ 5 ∧ t ≠ 68 ∧ t ≠ 41
theorem S1.touch {S : Nat → Prop} {w w' : World} {a : Option Addr} {n c : Nat} {cur : List Value} (h : S1 w a n c cur) (ht : Touch S w w') (hs : ∀ g, a = some ⟨g, 0, none⟩ → ¬ S g) : S1 w' a n c cur := by
  rcases h with h | ⟨g, rfl, hg, h1, h2, h3⟩
  · exact .inl h
  · exact .inr ⟨g, rfl, ht.heap hg (hs g rfl), h1, h2, h3⟩
theorem HOk.touch {S : Nat → Prop} {w w' : World} {B : Nat} {h : Hd} (hh : HOk w B h) (ht : Touch S w w') (hs : ∀ g, h.a = some ⟨g, 0, none⟩ → ¬ S g) : HOk w' B h := by
  obtain ⟨cur, h1, h2⟩ := hh
  exact ⟨cur, h1.touch ht hs, h2⟩
theorem Bk.touch {S : Nat → Prop} {w w' : World} {B bk : Nat} {N : Nat} {bs : Value} {H : List Hl} (h : Bk w B bk N bs H) (ht : Touch S w w') (hs : Other w S) : Bk w' B bk N bs H := by
  refine ⟨h.le, ht.heap h.book (fun e => (hs bk e _ _ _ h.book).2.2 rfl), owns_touch h.row ht (fun k hk e => ?_), fun i hi => (h.ok i hi).touch ht (fun g hg e => ?_), h.apart, h.num, h.few⟩
  · obtain ⟨cur, hc⟩ := owns_block h.row hk
    exact (hs k e _ _ _ hc).2.1 rfl
  · obtain ⟨cur, h1, _⟩ := h.ok i hi
    rcases h1 with ⟨h1, _⟩ | ⟨g', h1, hc, _⟩
    · rw [h1] at hg; cases hg
    · rw [h1] at hg; cases hg
      exact (hs g e _ _ _ hc).1 rfl
theorem Bk.below {w w' : World} {B bk : Nat} {N : Nat} {bs : Value} {H : List Hl} (h : Bk w B bk N bs H) (hb : Below w.heap.size w w') : Bk w' B bk N bs H := h.touch (Touch.of_below (S := fun _ => False) hb) (fun _ h => h.elim)

end Go.Proofs.YtppmpgkkegldnaaDoor
