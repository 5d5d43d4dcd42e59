/- The package disks: what its functions do to a disk in memory; conditions: those typed. -/
import Derived.Test.YtppmpgkkegldnaaDoorBB
import Derived.Deep.RegionHeld3
namespace Go.Proofs.YtppmpgkkegldnaaDoor
open Go.RowKit
set_option linter.unusedVariables false

theorem sizeSec : (Tryd.prog.info? 65).map (·.size) = some 64 := by kernel_rfl

theorem bcells_get (l : List UInt8) (i : Nat) (h : i < l.length) : (bcells l)[i]? = some (.int .u8 l[i].toNat) := by simp [bcells, h]

/-- A sector of noughts. -/
def zsec : List UInt8 := List.replicate 64 0
theorem zsec_length : zsec.length = 64 := by unfold zsec; exact List.length_replicate
def z64 : List Value := bcells zsec
theorem z64_length : z64.length = 64 := by unfold z64; rw [bcells_length, zsec_length]
theorem z64_made : (madeCells (Value.int .u8 0).cells (64 * 1)).toList = z64 := by
  show (madeCells #[Value.int .u8 0] (64 * 1)).toList = z64
  rw [toList_madeCells_one]
  unfold z64 bcells zsec
  rw [List.map_replicate]; rfl

/-- What a disk holds. -/
structure Dsk where
  secs : List (List UInt8)
  left : Int
  blown : Bool
  writes : Int

def Secs (L : List (List UInt8)) : Prop := ∀ s ∈ L, s.length = 64
theorem flat_length {L : List (List UInt8)} (h : Secs L) : L.flatten.length = L.length * 64 := by
  induction L with
  | nil => rfl
  | cons s L ih =>
    rw [List.flatten_cons, List.length_append, ih (fun x hx => h x (List.mem_cons_of_mem _ hx)), h s List.mem_cons_self, List.length_cons]
    omega
theorem flat_get {L : List (List UInt8)} (h : Secs L) (i : Nat) (hi : i < L.length) : (L.flatten.drop (i * 64)).take 64 = L[i] := by
  induction L generalizing i with
  | nil => simp at hi
  | cons s L ih =>
    have hs := h s List.mem_cons_self
    cases i with
    | zero => simp [hs]
    | succ i =>
      have e : (i + 1) * 64 = s.length + i * 64 := by omega
      rw [List.flatten_cons, e, ← List.drop_drop, List.drop_left]
      exact ih (fun x hx => h x (List.mem_cons_of_mem _ hx)) i (by simpa using hi)
theorem flat_set {L : List (List UInt8)} (h : Secs L) (i : Nat) (hi : i < L.length) (x : List UInt8) : (L.set i x).flatten = L.flatten.take (i * 64) ++ x ++ L.flatten.drop (i * 64 + 64) := by
  induction L generalizing i with
  | nil => simp at hi
  | cons s L ih =>
    have hs := h s List.mem_cons_self
    cases i with
    | zero => simp [hs]
    | succ i =>
      have e : (i + 1) * 64 = s.length + i * 64 := by omega
      have e2 : (i + 1) * 64 + 64 = s.length + (i * 64 + 64) := by omega
      rw [List.set_cons_succ, List.flatten_cons, ih (fun x hx => h x (List.mem_cons_of_mem _ hx)) i (by simpa using hi), List.flatten_cons, e2, e, List.take_length_add_append, List.drop_length_add_append]
      simp

/-- A disk in memory: its struct in block bd, its sectors in block bl. -/
structure IsDisk (w : World) (bd bl : Nat) (D : Dsk) : Prop where
  apart : bd ≠ bl
  pos : 1 ≤ D.secs.length
  most : D.secs.length ≤ 1024
  secs : Secs D.secs
  cells : w.heap[bd]? = some (.cells #[.slice (some ⟨bl, 0, none⟩) D.secs.length D.secs.length, .int .i64 D.left, .bool D.blown, .int .i64 D.writes] 59 (0, 0))
  row : w.heap[bl]? = some (.cells (bcells D.secs.flatten).toArray 65 (0, 0))
theorem IsDisk.touch {S : Nat → Prop} {w w' : World} {bd bl : Nat} {D : Dsk} (h : IsDisk w bd bl D) (ht : Touch S w w') (h1 : ¬ S bd) (h2 : ¬ S bl) : IsDisk w' bd bl D :=
  ⟨h.apart, h.pos, h.most, h.secs, ht.heap h.cells h1, ht.heap h.row h2⟩
theorem IsDisk.lt {w : World} {bd bl : Nat} {D : Dsk} (h : IsDisk w bd bl D) : bd < w.heap.size ∧ bl < w.heap.size := ⟨lt_of_heap h.cells, lt_of_heap h.row⟩
theorem IsDisk.field {w : World} {bd bl : Nat} {D : Dsk} (h : IsDisk w bd bl D) :
    w.cell? ⟨bd, 0, none⟩ = some (.slice (some ⟨bl, 0, none⟩) D.secs.length D.secs.length) ∧ w.cell? ⟨bd, 1, none⟩ = some (.int .i64 D.left) ∧ w.cell? ⟨bd, 2, none⟩ = some (.bool D.blown) ∧ w.cell? ⟨bd, 3, none⟩ = some (.int .i64 D.writes) := by
  refine ⟨?_, ?_, ?_, ?_⟩ <;> rw [cell_of_block h.cells] <;> rfl
theorem IsDisk.byte {w : World} {bd bl : Nat} {D : Dsk} (h : IsDisk w bd bl D) (i j : Nat) (hi : i < D.secs.length) (hj : j < 64) : w.cell? ⟨bl, i * 64 + j, none⟩ = some (.int .u8 ((D.secs[i]).getD j 0).toNat) := by
  rw [cell_of_block h.row]
  have hg := flat_get h.secs i hi
  have hl := flat_length h.secs
  have h64 := h.secs _ (List.getElem_mem hi)
  have hlt : i * 64 + j < D.secs.flatten.length := by rw [hl]; omega
  have : D.secs.flatten[i * 64 + j]? = (D.secs[i])[j]? := by
    rw [← hg, List.getElem?_take, if_pos hj, List.getElem?_drop]
  have hj' : j < (D.secs[i]).length := by omega
  rw [List.getElem?_eq_getElem hlt, List.getElem?_eq_getElem hj'] at this
  have hb : (bcells D.secs.flatten).toArray[i * 64 + j]? = some (.int .u8 (D.secs.flatten[i * 64 + j]).toNat) := by rw [List.getElem?_toArray]; exact bcells_get _ _ hlt
  rw [hb, Option.some.inj this]
  simp [hj']

theorem IsDisk.apartB {w : World} {bd bl : Nat} {D : Dsk} (h : IsDisk w bd bl D) {a : Option Addr} {n c : Nat} {l : List UInt8} (hb : IsB w a n c l) : ∀ b off, a = some ⟨b, off, none⟩ → l ≠ [] → ¬ (b = bd) := by
  intro b off ha hl hbd
  subst hbd
  obtain ⟨_, _, _, ⟨h4, _⟩ | ⟨b', off', hv, _, hc⟩⟩ := hb
  · exact hl h4
  · rw [ha] at hv
    cases hv
    have h0 := hc 0 (List.length_pos_iff.2 hl)
    rw [cell_of_block h.cells] at h0
    match off, h0 with
    | 0, h0 => simp at h0
    | 1, h0 => simp at h0
    | 2, h0 => simp at h0
    | 3, h0 => simp at h0
    | k + 4, h0 => simp at h0

/-- A fresh row of bytes. -/
def RowB (w : World) (g : Nat) (l : List UInt8) : Prop := w.heap[g]? = some (.cells (bcells l).toArray 5 (0, 0))
theorem RowB.isB {w : World} {g : Nat} {l : List UInt8} (h : RowB w g l) (hm : l.length ≤ maxLen) : IsB w (some ⟨g, 0, none⟩) l.length l.length l :=
  ⟨rfl, Nat.le_refl _, hm, .inr ⟨g, 0, rfl, lt_of_heap h, fun i hi => by rw [Nat.zero_add, cell_of_block h]; simp [bcells, hi]⟩⟩

/-! ### New -/
theorem infoSec : (Tryd.prog.info? 65).map (fun i => (i.zero, i.size, i.bytes)) = some (some (.agg (Array.replicate 64 (.int .u8 0))), 64, 64) := by kernel_rfl
theorem rowSec : RowTy Tryd.prog 57 65 64 64 (.agg (Array.replicate 64 (.int .u8 0))) := ⟨Tryd.underlying57, infoSec, by simp [Value.cells], by decide⟩
theorem new_bad (n : Int) (w : World) (hn : n < 1 ∨ 1024 < n) :
    Calls Tryd.prog 5 #[.int .i64 n] w fun e w' => e = .returned (.tuple #[.pointer none, .int .i64 1]) ∧ w = w' := by
  rcases hn with hn | hn
  · go_enter Tryd.func5, Tryd.ntmps5
    go_wp2
    go_ret2
    exact ⟨rfl, rfl⟩
  · have h1 : ¬ n < 1 := by omega
    go_enter Tryd.func5, Tryd.ntmps5
    go_wp2
    go_ret2
    exact ⟨rfl, rfl⟩

theorem made_zeros (k : Nat) : (madeCells (Value.agg (Array.replicate 64 (.int .u8 0))).cells (k * 64)).toList = bcells (List.replicate k zsec).flatten := by
  unfold zsec
  have h1 : (List.replicate k (List.replicate 64 (0 : UInt8))).flatten = List.replicate (k * 64) 0 := List.flatten_replicate_replicate
  rw [h1]
  unfold bcells
  rw [List.map_replicate]
  apply List.ext_getElem
  · simp [madeCells]
  · intro i h2 h3
    simp [madeCells, Value.cells]
    have : i % 64 < 64 := Nat.mod_lt _ (by decide)
    simp [this]
theorem row_of_owns {w : World} {base e size g n : Nat} {xs : List Value} (h : w.ownsRow base e size (.slice (some ⟨g, 0, none⟩) n n) n xs) : w.heap[g]? = some (.cells xs.toArray e (0, 0)) ∧ base ≤ g := by
  rcases h.2 with ⟨h', _⟩ | ⟨g', cap', cur, h', hb, hg, hnc, hcm, hcs, htake⟩
  · simp at h'
  · cases h'
    have : cur.toList = xs := by rw [← htake, ← hcs, ← Array.length_toList, List.take_length]
    exact ⟨by rw [hg, ← this], hb⟩

theorem new_good (n : Nat) (w : World) (h1 : 1 ≤ n) (h2 : n ≤ 1024) :
    Calls Tryd.prog 5 #[.int .i64 n] w fun e w' => ∃ bd bl, e = .returned (.tuple #[.pointer (some ⟨bd, 0, none⟩), .int .i64 0]) ∧ Below w.heap.size w w' ∧ w.heap.size ≤ bd ∧ w.heap.size ≤ bl ∧
      IsDisk w' bd bl ⟨List.replicate n zsec, -1, false, 0⟩ := by
  have hd1 : decide ((n : Int) < 1) = false := by simp; omega
  have hd2 : decide ((1024 : Int) < (n : Int)) = false := by simp; omega
  obtain ⟨i0, hi, hz0, hz1, hz2⟩ := info_parts infoSec
  go_enter Tryd.func5, Tryd.ntmps5
  go_wp2_with (refine wpList_make_full _ rfl _ _ 57 rfl w.heap.size 65 i0 _ 64 Tryd.underlying57 hi hz0 hz1 .i64 .i64 _ _ n rfl rfl rfl rfl (by rw [hz2]; omega) (by unfold maxLen; omega) (Nat.le_refl _) ?_; intro w1 hown1 hg1)
  go_ret2
  rw [made_zeros] at hown1
  obtain ⟨hrow, _⟩ := row_of_owns hown1
  have hs := hg1.size
  have hlt := lt_of_heap hrow
  refine ⟨w1.heap.size, w.heap.size, rfl, ((Below.refl _ _).grown hg1 (Nat.le_refl _) (by simp)).alloc hs _, hs, Nat.le_refl _, ?_⟩
  exact ⟨by omega, by simpa using h1, by simpa using h2, fun s hs => by rw [List.eq_of_mem_replicate hs]; exact zsec_length, by rw [heap_new]; simp, by
    rw [Below.heap_alloc _ _ _ hlt]; exact hrow⟩

/-! ### what only reads -/
theorem len_disk (bd bl : Nat) (D : Dsk) (w : World) (h : IsDisk w bd bl D) :
    Calls Tryd.prog 22 #[.pointer (some ⟨bd, 0, none⟩)] w fun e w' => e = .returned (.int .i64 D.secs.length) ∧ w = w' := by
  obtain ⟨f0, f1, f2, f3⟩ := h.field
  go_enter Tryd.func22, Tryd.ntmps22
  go_wp2
  go_ret
  exact ⟨rfl, rfl⟩
theorem len_nil (w : World) : Calls Tryd.prog 22 #[.pointer none] w fun e w' => e = .returned (.int .i64 0) ∧ w = w' := by
  go_enter Tryd.func22, Tryd.ntmps22
  go_wp2
  go_ret
  exact ⟨rfl, rfl⟩
theorem writes_disk (bd bl : Nat) (D : Dsk) (w : World) (h : IsDisk w bd bl D) :
    Calls Tryd.prog 16 #[.pointer (some ⟨bd, 0, none⟩)] w fun e w' => e = .returned (.int .i64 D.writes) ∧ w = w' := by
  obtain ⟨f0, f1, f2, f3⟩ := h.field
  go_enter Tryd.func16, Tryd.ntmps16
  go_wp2
  go_ret
  exact ⟨rfl, rfl⟩

/-! ### Read -/
theorem read_bad (bd bl : Nat) (D : Dsk) (n : Int) (w : World) (h : IsDisk w bd bl D) (hn : n < 0 ∨ D.secs.length ≤ n) :
    Calls Tryd.prog 8 #[.pointer (some ⟨bd, 0, none⟩), .int .i64 n] w fun e w' => e = .returned (.tuple #[.slice none 0 0, .int .i64 1]) ∧ w = w' := by
  obtain ⟨f0, f1, f2, f3⟩ := h.field
  have hp := h.pos
  have hne : ((D.secs.length : Int) == 0) = false := by rw [beq_eq_false_iff_ne]; omega
  rcases hn with hn | hn
  · have h0 : decide ((0 : Int) ≤ n) = false := by simpa using hn
    go_enter Tryd.func8, Tryd.ntmps8
    go_wp2
    go_ret2
    exact ⟨rfl, rfl⟩
  · have h0 : decide ((0 : Int) ≤ n) = true := by simp; omega
    have h1 : decide (n < (D.secs.length : Int)) = false := by simpa using hn
    go_enter Tryd.func8, Tryd.ntmps8
    go_wp2
    go_ret2
    exact ⟨rfl, rfl⟩

theorem there_ok (bd bl : Nat) (D : Dsk) (n : Nat) (w : World) (h : IsDisk w bd bl D) (hn : n < D.secs.length) :
    Calls Tryd.prog 26 #[.pointer (some ⟨bd, 0, none⟩), .int .i64 n, .func (Fn.func 27) #[.pointer (some ⟨bd, 0, none⟩)] #[]] w fun e w' => e = .returned (.int .i64 0) ∧ w = w' := by
  obtain ⟨f0, f1, f2, f3⟩ := h.field
  have hp := h.pos
  have hne : ((D.secs.length : Int) == 0) = false := by rw [beq_eq_false_iff_ne]; omega
  go_enter Tryd.func26, Tryd.ntmps26
  go_wp2
  go_ret
  exact ⟨rfl, rfl⟩

theorem IsDisk.at {w : World} {bd bl : Nat} {D : Dsk} (h : IsDisk w bd bl D) (n : Nat) (hn : n < D.secs.length) : At w (some ⟨bl, n * 64, none⟩) (bcells D.secs[n]) := by
  have h64 := h.secs _ (List.getElem_mem hn)
  refine At.of_cells fun j hj => ?_
  rw [bcells_length] at hj
  rw [h.byte n j hn (by omega)]
  have hj' : j < D.secs[n].length := hj
  simp [bcells, hj']

theorem read_good (bd bl : Nat) (D : Dsk) (n : Nat) (w : World) (h : IsDisk w bd bl D) (hn : n < D.secs.length) :
    Calls Tryd.prog 8 #[.pointer (some ⟨bd, 0, none⟩), .int .i64 n] w fun e w' => ∃ g, e = .returned (.tuple #[.slice (some ⟨g, 0, none⟩) 64 64, .int .i64 0]) ∧ Below w.heap.size w w' ∧ w.heap.size ≤ g ∧ RowB w' g D.secs[n] := by
  obtain ⟨i0, hi, hz0, hz1, hz2⟩ := info_parts infoU8
  have hmost := h.most
  have h64 := h.secs _ (List.getElem_mem hn)
  go_enter Tryd.func8, Tryd.ntmps8
  go_wp2_with fail
  refine (there_ok bd bl D n w h hn).mono ?_; rintro e w' ⟨rfl, rfl⟩
  go_wp2_with (first
    | (refine wpList_make_full _ rfl _ _ 42 rfl w.heap.size 5 i0 _ 1 Tryd.underlying42 hi hz0 hz1 .i64 .i64 _ _ 64 rfl rfl rfl rfl (by rw [hz2]; decide) (by decide) (Nat.le_refl _) ?_; intro w1 hown1 hg1; have hb1 : Below w.heap.size w w1 := (Below.refl _ _).grown hg1 (Nat.le_refl _) (by simp); have h1 := h.touch (Touch.of_below (S := fun _ => False) hb1) id id; obtain ⟨f0, f1, f2, f3⟩ := h1.field; rw [z64_made] at hown1; have hrow := (row_of_owns hown1).1)
    | (refine wpList_copy_any rowU8 rfl (.tmp 17) (.tmp 24) _ rfl _ _ _ _ _ _ rfl rfl w.heap.size 0 _ _ hrow (bcells D.secs[n]) (by rw [bcells_length, h64]; rfl) (fun _ => rfl) (h1.at n hn) (by rw [bcells_length, h64]; simp [z64_length]) (bcells_one _) ?_; intro w2 hg2 ht2)
    | fail)
  go_ret2
  have e : (List.take 0 z64.toArray.toList ++ bcells D.secs[n] ++ List.drop (0 + (bcells D.secs[n]).length) z64.toArray.toList).toArray = (bcells D.secs[n]).toArray := by
    simp [bcells_length, h64, z64_length]
  rw [e] at hg2
  exact ⟨_, rfl, hb1.trans (ht2.below hb1.size (fun k hk => by omega)), Nat.le_refl _, hg2⟩

/-! ### Fuse -/
theorem fuse_blown (bd bl : Nat) (D : Dsk) (n : Int) (w : World) (h : IsDisk w bd bl D) (hB : D.blown = true) :
    Calls Tryd.prog 12 #[.pointer (some ⟨bd, 0, none⟩), .int .i64 n] w fun e w' => e = .returned (.int .i64 8) ∧ w = w' := by
  obtain ⟨f0, f1, f2, f3⟩ := h.field
  have hp := h.pos
  have hne : ((D.secs.length : Int) == 0) = false := by rw [beq_eq_false_iff_ne]; omega
  rw [hB] at f2
  go_enter Tryd.func12, Tryd.ntmps12
  go_wp2
  go_ret
  exact ⟨rfl, rfl⟩
theorem fuse_ok (bd bl : Nat) (D : Dsk) (n : Int) (w : World) (h : IsDisk w bd bl D) (hB : D.blown = false) :
    Calls Tryd.prog 12 #[.pointer (some ⟨bd, 0, none⟩), .int .i64 n] w fun e w' => e = .returned (.int .i64 0) ∧ Touch (fun k => k = bd) w w' ∧ IsDisk w' bd bl { D with left := n } := by
  obtain ⟨f0, f1, f2, f3⟩ := h.field
  have hp := h.pos
  have hne : ((D.secs.length : Int) == 0) = false := by rw [beq_eq_false_iff_ne]; omega
  have hfr : ∀ i, w.frozen? ⟨bd, i, none⟩ = false := fun i => by simp [World.frozen?, h.cells]
  rw [hB] at f2
  have H := Lib.hid h
  clear h
  go_enter Tryd.func12, Tryd.ntmps12
  go_wp2
  go_ret
  have h := H.out
  refine ⟨rfl, (Touch.refl _ _).setCell _ _ (.inl rfl), ⟨h.apart, h.pos, h.most, h.secs, ?_, ?_⟩⟩
  · rw [heap_setCell_same _ _ _ _ _ _ h.cells]; rfl
  · rw [Below.heap_setCell _ _ _ _ (Ne.symm h.apart)]; exact h.row

end Go.Proofs.YtppmpgkkegldnaaDoor
