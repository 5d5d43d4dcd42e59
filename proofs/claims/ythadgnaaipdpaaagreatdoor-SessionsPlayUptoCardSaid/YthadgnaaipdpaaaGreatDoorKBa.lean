/- A book of lists of four kinds, in memory: what it says, and what leaves it be; conditions: those typed. -/
import Derived.Test.YthadgnaaipdpaaaGreatDoorBB
import Derived.Test.YthadgnaaipdpaaaGreatDoorBig
import Derived.Deep.MidRow
import Derived.Deep.RegionHeld3
import Derived.Deep.RegionLaw
namespace Go.Proofs.YthadgnaaipdpaaaGreatDoor
open Go.RowKit
set_option linter.unusedVariables false
set_option linter.unusedSimpArgs false
set_option maxRecDepth 100000

/-- The kinds of lists. -/
inductive Kd where
  | byte | int | il | bl
def Kd.el : Kd → TypeId
  | .byte => 5 | .int => 3 | .il => 22 | .bl => 24
def Kd.ls : Kd → TypeId
  | .byte => 24 | .int => 22 | .il => 108 | .bl => 23
def Kd.hd : Kd → TypeId
  | .byte => 98 | .int => 102 | .il => 110 | .bl => 113
def Kd.hs : Kd → TypeId
  | .byte => 44 | .int => 45 | .il => 47 | .bl => 48
def Kd.ix : Kd → Nat
  | .byte => 1 | .int => 2 | .il => 4 | .bl => 5
def Kd.sz : Kd → Nat
  | .byte => 1 | .int => 8 | .il => 24 | .bl => 24
def Kd.z : Kd → Value
  | .byte => .int .u8 0 | .int => .int .i64 0 | .il => .slice none 0 0 | .bl => .slice none 0 0
def updK {α : Type} (H : Kd → α) : Kd → α → Kd → α
  | .byte, v, .byte => v
  | .int, v, .int => v
  | .il, v, .il => v
  | .bl, v, .bl => v
  | _, _, k => H k
theorem updK_self {α : Type} (H : Kd → α) (κ : Kd) (v : α) : updK H κ v κ = v := by cases κ <;> rfl
theorem updK_ne {α : Type} (H : Kd → α) (κ κ' : Kd) (v : α) (h : κ' ≠ κ) : updK H κ v κ' = H κ' := by cases κ <;> cases κ' <;> first | rfl | exact absurd rfl h
theorem Kd.types (κ κ' : Kd) : κ.hd ≠ κ'.el ∧ κ.hd ≠ 54 ∧ κ.el ≠ 54 ∧ (κ ≠ κ' → κ.hd ≠ κ'.hd ∧ κ.el ≠ κ'.el) := by
  cases κ <;> cases κ' <;> exact ⟨by decide, by decide, by decide, fun h => by first | exact absurd rfl h | exact ⟨by decide, by decide⟩⟩
theorem Kd.dec (κ κ' : Kd) : κ = κ' ∨ κ ≠ κ' := by cases κ <;> cases κ' <;> first | exact .inl rfl | exact .inr (by intro e; cases e)

theorem infoH (κ : Kd) : (Tryz.prog.info? κ.hd).map (fun i => (i.zero, i.size, i.bytes)) = some (some (.agg #[.slice none 0 0, .slice none 0 0, .int .i64 0]), 3, 56) := by cases κ <;> kernel_rfl
theorem rowH (κ : Kd) : RowTy Tryz.prog κ.hs κ.hd 3 56 (.agg #[.slice none 0 0, .slice none 0 0, .int .i64 0]) := ⟨by cases κ <;> kernel_rfl, infoH κ, rfl, by decide⟩
theorem rowE (κ : Kd) : RowTy Tryz.prog κ.ls κ.el 1 κ.sz κ.z := ⟨by cases κ <;> kernel_rfl, by cases κ <;> kernel_rfl, by cases κ <;> rfl, by cases κ <;> decide⟩
theorem infoH3 (κ : Kd) : (Tryz.prog.info? κ.hd).map (·.size) = some 3 := by cases κ <;> kernel_rfl

/-- A slice, as a value. -/
structure Hd where
  a : Option Addr
  n : Nat
  c : Nat
def Hd.val (h : Hd) : Value := .slice h.a h.n h.c
/-- A list that was answered, what it is grown to, its number. -/
structure Hl where
  l : Hd
  g : Hd
  m : Nat
def Hl.cells (x : Hl) : List Value := [x.l.val, x.g.val, .int .i64 x.m]
def hcells (H : List Hl) : List Value := H.flatMap Hl.cells
theorem hcells_length (H : List Hl) : (hcells H).length = H.length * 3 := by
  induction H with
  | nil => rfl
  | cons x H ih => show (x.cells ++ hcells H).length = _; rw [List.length_append, ih]; show 3 + H.length * 3 = (H.length + 1) * 3; omega
theorem hcells_get (H : List Hl) (i : Nat) (hi : i < H.length) (j : Nat) (hj : j < 3) : (hcells H)[3 * i + j]? = (H[i].cells)[j]? := by
  induction H generalizing i with
  | nil => simp at hi
  | cons x H ih =>
    show (x.cells ++ hcells H)[3 * i + j]? = _
    have hx : x.cells.length = 3 := rfl
    cases i with
    | zero => rw [List.getElem?_append_left (by omega)]; simp
    | succ i =>
      rw [List.getElem?_append_right (by omega), hx, show 3 * (i + 1) + j - 3 = 3 * i + j by omega, ih i (by simpa using hi)]
      rfl
theorem hcells_snoc (H : List Hl) (x : Hl) : hcells (H ++ [x]) = hcells H ++ x.cells := by unfold hcells; simp
theorem hcells_set (H : List Hl) (i : Nat) (hi : i < H.length) (g : Hd) : hcells (H.set i { H[i] with g := g }) = (hcells H).set (3 * i + 1) g.val := by
  induction H generalizing i with
  | nil => simp at hi
  | cons x H ih =>
    cases i with
    | zero => rfl
    | succ i =>
      have hi' : i < H.length := by simpa using hi
      show x.cells ++ hcells (H.set i _) = (x.cells ++ hcells H).set (3 * (i + 1) + 1) g.val
      have e := ih i hi'
      rw [List.set_append_right _ _ (by show 3 ≤ _; omega)]
      rw [show 3 * (i + 1) + 1 - x.cells.length = 3 * i + 1 by show 3 * (i + 1) + 1 - 3 = _; omega, ← e]
      rfl

/-! ### marks -/
def mk (m : Nat) : UInt8 := UInt8.ofNat m
theorem mk_eq (m : Nat) : ((m : Int) % 256) = ((mk m).toNat : Int) := by simp [mk]
/-- What a mark is, as an element of a list; what it leads to lies from F on. -/
def Good : Kd → Nat → World → Nat → Value → Prop
  | .byte, _, _, m, v => v = .int .u8 (mk m).toNat
  | .int, _, _, m, v => v = .int .i64 (-(m : Int))
  | .il, F, w, m, v => ∃ g, v = .slice (some ⟨g, 0, none⟩) 1 1 ∧ F ≤ g ∧ w.heap[g]? = some (.cells #[.int .i64 m] 3 (0, 0))
  | .bl, F, w, m, v => ∃ g, v = .slice (some ⟨g, 0, none⟩) 1 1 ∧ F ≤ g ∧ w.heap[g]? = some (.cells #[.int .u8 (mk m).toNat] 5 (0, 0))
theorem Good.touch {κ : Kd} {F : Nat} {w w' : World} {m : Nat} {v : Value} {S : Nat → Prop} (h : Good κ F w m v) (ht : Touch S w w') (hs : ∀ k, S k → k < F) : Good κ F w' m v := by
  cases κ with
  | byte => exact h
  | int => exact h
  | il => obtain ⟨g, h1, h2, h3⟩ := h; exact ⟨g, h1, h2, ht.heap h3 (fun e => by have := hs g e; omega)⟩
  | bl => obtain ⟨g, h1, h2, h3⟩ := h; exact ⟨g, h1, h2, ht.heap h3 (fun e => by have := hs g e; omega)⟩
/-- A store into a block of the kind's own elements does nothing to its marks. -/
theorem Good.own {κ : Kd} {F : Nat} {w w' : World} {m g : Nat} {v : Value} (h : Good κ F w m v) (ht : Touch (fun k => k = g) w w') {cur : Array Value} {fz : Nat × Nat} (hg : w.heap[g]? = some (.cells cur κ.el fz)) : Good κ F w' m v := by
  cases κ with
  | byte => exact h
  | int => exact h
  | il =>
    obtain ⟨g', h1, h2, h3⟩ := h
    refine ⟨g', h1, h2, ht.heap h3 (fun e => ?_)⟩
    rw [e, hg] at h3
    have := (Obj.cells.inj (Option.some.inj h3)).2.1
    revert this; decide
  | bl =>
    obtain ⟨g', h1, h2, h3⟩ := h
    refine ⟨g', h1, h2, ht.heap h3 (fun e => ?_)⟩
    rw [e, hg] at h3
    have := (Obj.cells.inj (Option.some.inj h3)).2.1
    revert this; decide
theorem Good.below {κ : Kd} {F : Nat} {w w' : World} {m : Nat} {v : Value} (h : Good κ F w m v) (hb : Below w.heap.size w w') : Good κ F w' m v := h.touch (Touch.of_below (S := fun _ => False) hb) (fun _ h => h.elim)
theorem Good.one {κ : Kd} {F : Nat} {w : World} {m : Nat} {v : Value} (h : Good κ F w m v) : v.oneCell' = true := by
  cases κ with
  | byte => cases h; rfl
  | int => cases h; rfl
  | il => obtain ⟨g, h1, _⟩ := h; subst h1; rfl
  | bl => obtain ⟨g, h1, _⟩ := h; subst h1; rfl

theorem heap_set_fz (w : World) (g k : Nat) (cur : Array Value) (t : TypeId) (fz : Nat × Nat) (v : Value) (h : w.heap[g]? = some (.cells cur t fz)) : (w.setCell ⟨g, k, none⟩ v).heap[g]? = some (.cells (cur.setIfInBounds k v) t fz) := by
  have hlt : g < w.heap.size := (Array.getElem?_eq_some_iff.1 h).1
  have hv : w.heap[g] = .cells cur t fz := (Array.getElem?_eq_some_iff.1 h).2
  unfold World.setCell
  rw [Array.getElem?_eq_getElem (by simpa using hlt), Array.getElem_modify]
  simp [hv]
/-- A slice that begins its block, and what the block holds. -/
def SK (e : TypeId) (w : World) (a : Option Addr) (n c : Nat) (cur : List Value) : Prop :=
  (a = none ∧ n = 0 ∧ c = 0 ∧ cur = []) ∨ ∃ g, a = some ⟨g, 0, none⟩ ∧ (∃ fz : Nat × Nat, w.heap[g]? = some (.cells cur.toArray e fz) ∧ (fz = (0, 0) ∨ cur.length ≤ fz.1)) ∧ n ≤ c ∧ c ≤ cur.length ∧ c ≤ maxLen
theorem SK.touch {e : TypeId} {S : Nat → Prop} {w w' : World} {a : Option Addr} {n c : Nat} {cur : List Value} (h : SK e w a n c cur) (ht : Touch S w w') (hs : ∀ g, a = some ⟨g, 0, none⟩ → ¬ S g) : SK e w' a n c cur := by
  rcases h with h | ⟨g, rfl, ⟨fz, hg, hz⟩, h1, h2, h3⟩
  · exact .inl h
  · exact .inr ⟨g, rfl, ⟨fz, ht.heap hg (hs g rfl), hz⟩, h1, h2, h3⟩
/-- Where a list lies: its block begins with it, from B on. -/
def HOk (κ : Kd) (w : World) (B : Nat) (h : Hd) : Prop := ∃ cur, SK κ.el w h.a h.n h.c cur ∧ ∀ g, h.a = some ⟨g, 0, none⟩ → B ≤ g
theorem HOk.touch {κ : Kd} {S : Nat → Prop} {w w' : World} {B : Nat} {h : Hd} (hh : HOk κ w B h) (ht : Touch S w w') (hs : ∀ g, h.a = some ⟨g, 0, none⟩ → ¬ S g) : HOk κ w' B h := by
  obtain ⟨cur, h1, h2⟩ := hh
  exact ⟨cur, h1.touch ht hs, h2⟩
theorem HOk.block {κ : Kd} {w : World} {B : Nat} {h : Hd} (hh : HOk κ w B h) {g : Nat} (hg : h.a = some ⟨g, 0, none⟩) : ∃ C : Array Value × Nat × Nat, w.heap[g]? = some (.cells C.1 κ.el C.2) ∧ B ≤ g := by
  obtain ⟨cur, s, hB⟩ := hh
  rcases s with ⟨s, _⟩ | ⟨g', s, ⟨fz, hc, _⟩, _⟩
  · rw [s] at hg; cases hg
  · rw [s] at hg; cases hg; exact ⟨⟨_, fz⟩, hc, hB g s⟩
theorem HOk.at {κ : Kd} {w : World} {B : Nat} {h : Hd} (hh : HOk κ w B h) (k : Nat) (hk : k < h.n) : ∃ g, ∃ C : Array Value × Nat × Nat, h.a = some ⟨g, 0, none⟩ ∧ w.heap[g]? = some (.cells C.1 κ.el C.2) ∧ k < C.1.size ∧ B ≤ g ∧ w.frozen? ⟨g, k, none⟩ = false := by
  obtain ⟨cur, h1, h2⟩ := hh
  rcases h1 with ⟨_, h1, _⟩ | ⟨g, h1, ⟨fz, hc, hz⟩, h3, h4, _⟩
  · omega
  · refine ⟨g, ⟨_, fz⟩, h1, hc, by simp; omega, h2 g h1, ?_⟩
    rcases hz with rfl | hz
    · simp [World.frozen?, hc]
    · obtain ⟨lo, hi⟩ := fz
      dsimp only at hz
      simp [World.frozen?, hc]
      omega
theorem HOk.len {κ : Kd} {w : World} {B : Nat} {h : Hd} (hh : HOk κ w B h) : h.n ≤ maxLen := by
  obtain ⟨cur, s, _⟩ := hh
  rcases s with ⟨_, s, _⟩ | ⟨_, _, _, s4, s5, s6⟩
  · rw [s]; exact Nat.zero_le _
  · exact Nat.le_trans s4 s6
/-- All its elements are marks. -/
def HFill (κ : Kd) (F : Nat) (w : World) (h : Hd) (m : Nat) : Prop := ∀ i, i < h.n → ∃ g v, h.a = some ⟨g, 0, none⟩ ∧ w.cell? ⟨g, i, none⟩ = some v ∧ Good κ F w m v
theorem HFill.touch {κ : Kd} {F : Nat} {S : Nat → Prop} {w w' : World} {h : Hd} {m : Nat} (hh : HFill κ F w h m) (ht : Touch S w w') (h1 : ∀ g, h.a = some ⟨g, 0, none⟩ → ¬ S g) (h2 : ∀ v, Good κ F w m v → Good κ F w' m v) : HFill κ F w' h m := fun i hi => by
  obtain ⟨g, v, e, hc, hv⟩ := hh i hi
  exact ⟨g, v, e, ht.cell hc (h1 g e), h2 v hv⟩
theorem HFill.below {κ : Kd} {F : Nat} {w w' : World} {y : Hd} {m : Nat} (h : HFill κ F w y m) (hb : Below w.heap.size w w') : HFill κ F w' y m :=
  h.touch (Touch.of_below (S := fun _ => False) hb) (fun _ _ => id) (fun v hv => hv.below hb)

/-! ### the book -/
def bookC (N : Nat) (bs : Kd → Value) : Array Value := #[.int .i64 N, bs .byte, bs .int, .slice none 0 0, bs .il, bs .bl, .slice none 0 0, .slice none 0 0, .slice none 0 0, .slice none 0 0]
structure Part (κ : Kd) (w : World) (B : Nat) (bs : Value) (H : List Hl) : Prop where
  row : w.ownsRow B κ.hd 3 bs H.length (hcells H)
  ok : ∀ i (h : i < H.length), HOk κ w B H[i].l
  apart : ∀ i j (hi : i < H.length) (hj : j < H.length), i ≠ j → ∀ g, H[i].l.a = some ⟨g, 0, none⟩ → H[j].l.a ≠ some ⟨g, 0, none⟩
  num : ∀ i (h : i < H.length), H[i].m < 4611686018427387904
  few : H.length ≤ 1000000
/-- A book in memory. -/
structure Bk (w : World) (B bk : Nat) (N : Nat) (bs : Kd → Value) (H : Kd → List Hl) : Prop where
  le : B ≤ bk
  book : w.heap[bk]? = some (.cells (bookC N bs) 54 (0, 0))
  part : ∀ κ, Part κ w B (bs κ) (H κ)
theorem Part.touch {κ : Kd} {S : Nat → Prop} {w w' : World} {B : Nat} {bs : Value} {H : List Hl} (h : Part κ w B bs H) (ht : Touch S w w') (hs : ∀ k, S k → ∀ cur t fz, w.heap[k]? = some (.cells cur t fz) → t ≠ κ.el ∧ t ≠ κ.hd) : Part κ w' B bs H := by
  refine ⟨owns_touch h.row ht (fun k hk e => ?_), fun i hi => (h.ok i hi).touch ht (fun g hg e => ?_), h.apart, h.num, h.few⟩
  · obtain ⟨cur, hc⟩ := owns_block h.row hk
    exact (hs k e _ _ _ hc).2 rfl
  · obtain ⟨cur, hc, _⟩ := (h.ok i hi).block hg
    exact (hs g e _ _ _ hc).1 rfl
/-- Blocks of other kinds than a book's. -/
def Other (w : World) (S : Nat → Prop) : Prop := ∀ k, S k → ∀ cur t fz, w.heap[k]? = some (.cells cur t fz) → (∀ κ : Kd, t ≠ κ.el ∧ t ≠ κ.hd) ∧ t ≠ 54
theorem Bk.touch {S : Nat → Prop} {w w' : World} {B bk : Nat} {N : Nat} {bs : Kd → Value} {H : Kd → List Hl} (h : Bk w B bk N bs H) (ht : Touch S w w') (hs : Other w S) : Bk w' B bk N bs H :=
  ⟨h.le, ht.heap h.book (fun e => (hs bk e _ _ _ h.book).2 rfl), fun κ => (h.part κ).touch ht (fun k hk cur t fz hc => (hs k hk cur t fz hc).1 κ)⟩
theorem Bk.below {w w' : World} {B bk : Nat} {N : Nat} {bs : Kd → Value} {H : Kd → List Hl} (h : Bk w B bk N bs H) (hb : Below w.heap.size w w') : Bk w' B bk N bs H := h.touch (Touch.of_below (S := fun _ => False) hb) (fun _ h => h.elim)
theorem Bk.cell {w : World} {B bk N : Nat} {bs : Kd → Value} {H : Kd → List Hl} (h : Bk w B bk N bs H) (κ : Kd) : w.cell? ⟨bk, κ.ix, none⟩ = some (bs κ) := by rw [cell_of_block h.book]; cases κ <;> rfl
theorem Bk.frozen {w : World} {B bk N : Nat} {bs : Kd → Value} {H : Kd → List Hl} (h : Bk w B bk N bs H) (i : Nat) : w.frozen? ⟨bk, i, none⟩ = false := by simp [World.frozen?, h.book]
theorem Bk.lt {w : World} {B bk N : Nat} {bs : Kd → Value} {H : Kd → List Hl} (h : Bk w B bk N bs H) : B ≤ w.heap.size := Nat.le_trans h.le (Nat.le_of_lt (lt_of_heap h.book))
theorem blk_frozen {w : World} {bk i : Nat} {C : Array Value} {t : TypeId} (h : w.heap[bk]? = some (.cells C t (0, 0))) : w.frozen? ⟨bk, i, none⟩ = false := by simp [World.frozen?, h]
theorem ty_ne {w : World} {g h : Nat} {C D : Array Value} {t u : TypeId} {f1 f2 : Nat × Nat} (hg : w.heap[g]? = some (.cells C t f1)) (hh : w.heap[h]? = some (.cells D u f2)) (hne : t ≠ u) : g ≠ h := fun e => by
  rw [e, hh] at hg
  exact hne (Obj.cells.inj (Option.some.inj hg)).2.1.symm
/-- The lists' own blocks. -/
def LS (L : List Hl) (k : Nat) : Prop := ∃ i, ∃ h : i < L.length, L[i].l.a = some ⟨k, 0, none⟩
theorem Part.ls {κ : Kd} {w : World} {B k : Nat} {bs : Value} {H : List Hl} (h : Part κ w B bs H) (hk : LS H k) : ∃ C : Array Value × Nat × Nat, w.heap[k]? = some (.cells C.1 κ.el C.2) ∧ B ≤ k := by
  obtain ⟨i, hi, e⟩ := hk
  exact (h.ok i hi).block e
theorem Part.row_at {κ : Kd} {w : World} {B : Nat} {bs : Value} {H : List Hl} (h : Part κ w B bs H) (hn : 0 < H.length) : ∃ gr c cur, bs = .slice (some ⟨gr, 0, none⟩) H.length c ∧ H.length ≤ c ∧ c ≤ maxLen ∧ w.heap[gr]? = some (.cells cur κ.hd (0, 0)) ∧ B ≤ gr ∧ ∀ j (hj : j < H.length), w.rangeAt gr (j * 3) H[j].cells := by
  rcases h.row.2 with ⟨_, h0⟩ | ⟨gr, c, cur, hv, hB, hg, hnc, hcm, hcs, htk⟩
  · omega
  · refine ⟨gr, c, cur, hv, hnc, hcm, hg, hB, fun j hj x v hx => ?_⟩
    rw [cell_of_block hg]
    have hx3 : x < 3 := by have := (List.getElem?_eq_some_iff.1 hx).1; exact this
    have e : (cur.toList.take (H.length * 3))[j * 3 + x]? = some v := by
      rw [htk, Nat.mul_comm j 3, hcells_get H j hj x hx3]; exact hx
    rw [List.getElem?_take] at e
    split at e
    · simpa using e
    · cases e
/-- An element of a list is laid. -/
theorem Part.store {κ : Kd} {w : World} {B : Nat} {bs : Value} {H : List Hl} (h : Part κ w B bs H) (j : Nat) (hj : j < H.length) (k g : Nat) (hk : k < H[j].l.n) (hg : H[j].l.a = some ⟨g, 0, none⟩) (v : Value) : Part κ (w.setCell ⟨g, k, none⟩ v) B bs H := by
  obtain ⟨g', cur, e1, hc, hkc, hB, _⟩ := (h.ok j hj).at k hk
  rw [hg] at e1
  cases e1
  have ht : Touch (fun x => x = g) w (w.setCell ⟨g, k, none⟩ v) := (Touch.refl _ _).setCell _ _ (.inl rfl)
  refine ⟨owns_touch h.row ht (fun x hx e => ?_), fun i hi => ?_, h.apart, h.num, h.few⟩
  · obtain ⟨cur2, hc2⟩ := owns_block h.row hx
    exact ty_ne hc2 hc (κ.types κ).1 e
  · by_cases hij : i = j
    · subst hij
      obtain ⟨cur3, s1, s2⟩ := h.ok i hi
      rcases s1 with ⟨s1, _⟩ | ⟨g3, s1, ⟨fz3, hc3, hz3⟩, s4, s5, s6⟩
      · rw [hg] at s1; cases s1
      · rw [hg] at s1; cases s1
        rw [hc] at hc3
        refine ⟨cur3.set k v, .inr ⟨g, hg, ⟨fz3, ?_, by simpa using hz3⟩, s4, by simpa using s5, s6⟩, s2⟩
        rw [heap_set_fz _ _ _ _ _ _ _ hc]
        obtain ⟨cur, fz⟩ := cur
        dsimp only at hc3
        have h1 : cur = cur3.toArray := (Obj.cells.inj (Option.some.inj hc3)).1
        have h2 : fz = fz3 := (Obj.cells.inj (Option.some.inj hc3)).2.2
        subst h1
        subst h2
        simp
    · exact (h.ok i hi).touch ht (fun x hx e => h.apart j i hj hi (Ne.symm hij) g hg (by rw [hx, e]))
/-- Blocks of a kind's own. -/
theorem Bk.others {κ : Kd} {w w' : World} {B bk N : Nat} {bs : Kd → Value} {H : Kd → List Hl} {S : Nat → Prop} (h : Bk w B bk N bs H) (ht : Touch S w w') (hs : ∀ k, S k → ∃ cur t fz, w.heap[k]? = some (.cells cur t fz) ∧ (t = κ.el ∨ t = κ.hd)) {L : List Hl} {v : Value} (hv : v = bs κ) (hp : Part κ w' B v L) : Bk w' B bk N bs (updK H κ L) := by
  subst hv
  refine ⟨h.le, ht.heap h.book (fun e => ?_), fun κ' => ?_⟩
  · obtain ⟨cur, t, fz, hc, ht⟩ := hs bk e
    rw [h.book] at hc
    have e2 := (Obj.cells.inj (Option.some.inj hc)).2.1
    rcases ht with ht | ht
    · exact (κ.types κ).2.2.1 (ht.symm.trans e2.symm)
    · exact (κ.types κ).2.1 (ht.symm.trans e2.symm)
  · rcases Kd.dec κ' κ with e | e
    · subst e; rw [updK_self]; exact hp
    · rw [updK_ne _ _ _ _ e]
      refine (h.part κ').touch ht (fun k hk cur t fz hc => ?_)
      obtain ⟨cur2, t2, fz2, hc2, ht2⟩ := hs k hk
      rw [hc] at hc2
      have e2 := (Obj.cells.inj (Option.some.inj hc2)).2.1
      rw [e2]
      have q1 := κ.types κ'
      have q2 := κ'.types κ
      rcases ht2 with ht2 | ht2
      · rw [ht2]; exact ⟨(q1.2.2.2 (Ne.symm e)).2, fun e3 => q2.1 e3.symm⟩
      · rw [ht2]; exact ⟨q1.1, (q1.2.2.2 (Ne.symm e)).1⟩
theorem updK_same {α : Type} (H : Kd → α) (κ : Kd) : updK H κ (H κ) = H := funext fun k => by
  rcases Kd.dec k κ with e | e
  · subst e; exact updK_self _ _ _
  · exact updK_ne _ _ _ _ e

end Go.Proofs.YthadgnaaipdpaaaGreatDoor
