/- disks: Write; conditions: those typed. -/
import Derived.Test.YtppmpgkkegldnaaDoorDisks
namespace Go.Proofs.YtppmpgkkegldnaaDoor
open Go.RowKit
set_option linter.unusedVariables false

/-- bytes as a sector. -/
def padS (b : List UInt8) : List UInt8 := b ++ List.replicate (64 - b.length) 0
theorem padS_length (b : List UInt8) (h : b.length ≤ 64) : (padS b).length = 64 := by unfold padS; simp; omega

/-- What Write does. -/
def Dsk.write (D : Dsk) (n : Int) (b : List UInt8) : Int × Dsk :=
  if n < 0 ∨ (D.secs.length : Int) ≤ n ∨ 64 < b.length then (1, D)
  else if D.blown = true ∨ D.left = 0 then (8, { D with blown := true })
  else (0, { D with secs := D.secs.set n.toNat (padS b), left := if 0 < D.left then D.left - 1 else D.left, writes := D.writes + 1 })

/-- what 'there' answers to Write's question. -/
def thereI (D : Dsk) (n : Int) (m : Nat) : Int := if n < 0 ∨ (D.secs.length : Int) ≤ n ∨ 64 < m then 1 else 0

set_option maxHeartbeats 1000000 in
theorem there_w (bd bl : Nat) (D : Dsk) (n : Int) (a : Option Addr) (m c bh bb : Nat) (w : World) (h : IsDisk w bd bl D)
    (hh : w.cell? ⟨bh, 0, none⟩ = some (.func (Fn.func 27) #[.pointer (some ⟨bd, 0, none⟩)] #[])) (hb : w.cell? ⟨bb, 0, none⟩ = some (.slice a m c)) :
    Calls Tryd.prog 26 #[.pointer (some ⟨bd, 0, none⟩), .int .i64 n, .func (Fn.func 29) #[] #[.pointer (some ⟨bh, 0, none⟩), .pointer (some ⟨bb, 0, none⟩)]] w
      fun e w' => e = .returned (.int .i64 (thereI D n m)) ∧ w = w' := by
  obtain ⟨f0, f1, f2, f3⟩ := h.field
  have hp := h.pos
  have hne : ((D.secs.length : Int) == 0) = false := by rw [beq_eq_false_iff_ne]; omega
  clear h
  by_cases c0 : n < 0
  · have HV : Hid (thereI D n m = 1) := Lib.hid (if_pos (.inl c0))
    have h0 : decide ((0 : Int) ≤ n) = false := by simpa using c0
    go_enter Tryd.func26, Tryd.ntmps26
    go_wp2
    go_ret
    exact ⟨by rw [HV.out]; rfl, rfl⟩
  · have h0 : decide ((0 : Int) ≤ n) = true := by simp; omega
    by_cases c1 : (D.secs.length : Int) ≤ n
    · have HV : Hid (thereI D n m = 1) := Lib.hid (if_pos (.inr (.inl c1)))
      have h1 : decide (n < (D.secs.length : Int)) = false := by simpa using c1
      go_enter Tryd.func26, Tryd.ntmps26
      go_wp2
      go_ret
      exact ⟨by rw [HV.out]; rfl, rfl⟩
    · have h1 : decide (n < (D.secs.length : Int)) = true := by simp; omega
      by_cases c2 : 64 < m
      · have HV : Hid (thereI D n m = 1) := Lib.hid (if_pos (.inr (.inr c2)))
        have h2 : decide ((m : Int) ≤ 64) = false := by simp; omega
        go_enter Tryd.func26, Tryd.ntmps26
        go_wp2
        go_ret
        exact ⟨by rw [HV.out]; rfl, rfl⟩
      · have HV : Hid (thereI D n m = 0) := Lib.hid (if_neg (by omega))
        have h2 : decide ((m : Int) ≤ 64) = true := by simp; omega
        go_enter Tryd.func26, Tryd.ntmps26
        go_wp2
        go_ret
        exact ⟨by rw [HV.out]; rfl, rfl⟩

/-- the two variables that Write lays first. -/
abbrev wW (w : World) (bd : Nat) (a : Option Addr) (m c : Nat) : World := (w.alloc (.cells #[.slice a m c] 42)).alloc (.cells #[.func (Fn.func 27) #[.pointer (some ⟨bd, 0, none⟩)] #[]] 64)
theorem wW_below (w : World) (bd : Nat) (a : Option Addr) (m c : Nat) : Below w.heap.size w (wW w bd a m c) := ((Below.refl _ _).alloc (Nat.le_refl _) _).alloc (by simp) _
theorem wW_cells (w : World) (bd : Nat) (a : Option Addr) (m c : Nat) : (wW w bd a m c).cell? ⟨w.heap.size + 1, 0, none⟩ = some (.func (Fn.func 27) #[.pointer (some ⟨bd, 0, none⟩)] #[]) ∧ (wW w bd a m c).cell? ⟨w.heap.size, 0, none⟩ = some (.slice a m c) := by
  constructor
  · rw [cell_of_block (heap_alloc2_new w _ _)]; rfl
  · rw [cell_of_block (heap_alloc2_old w _ _)]; rfl

theorem wW_set (w : World) (bd : Nat) (a : Option Addr) (m c i : Nat) (v : Value) (h : bd < w.heap.size) : (wW w bd a m c).setCell ⟨bd, i, none⟩ v = ((w.setCell ⟨bd, i, none⟩ v).alloc (.cells #[.slice a m c] 42)).alloc (.cells #[.func (Fn.func 27) #[.pointer (some ⟨bd, 0, none⟩)] #[]] 64) := by
  unfold wW
  rw [World.setCell_alloc_past _ _ _ _ (by simp; omega), World.setCell_alloc_past _ _ _ _ h]

set_option maxHeartbeats 1000000 in
theorem write_bad (bd bl : Nat) (D : Dsk) (n : Int) (a : Option Addr) (m c : Nat) (w : World) (h : IsDisk w bd bl D) (hn : n < 0 ∨ (D.secs.length : Int) ≤ n ∨ 64 < m) :
    Calls Tryd.prog 17 #[.pointer (some ⟨bd, 0, none⟩), .int .i64 n, .slice a m c] w fun e w' => e = .returned (.int .i64 1) ∧ Below w.heap.size w w' := by
  have HV : Hid (thereI D n m = 1) := Lib.hid (if_pos hn)
  have H := Lib.hid h
  clear h hn
  go_enter Tryd.func17, Tryd.ntmps17
  go_wp2_with fail
  refine (there_w bd bl D n a m c _ _ _ (H.out.touch (Touch.of_below (S := fun _ => False) (wW_below w bd a m c)) id id) (wW_cells w bd a m c).1 (wW_cells w bd a m c).2).mono ?_; rintro e w' ⟨rfl, rfl⟩
  rw [HV.out]
  go_wp2_with fail
  go_ret
  exact ⟨rfl, wW_below w bd a m c⟩

set_option maxHeartbeats 1000000 in
theorem write_blown (bd bl : Nat) (D : Dsk) (n : Int) (a : Option Addr) (m c : Nat) (w : World) (h : IsDisk w bd bl D) (h0 : 0 ≤ n) (h1 : n < D.secs.length) (h2 : m ≤ 64) (hb : D.blown = true ∨ D.left = 0) :
    Calls Tryd.prog 17 #[.pointer (some ⟨bd, 0, none⟩), .int .i64 n, .slice a m c] w fun e w' => e = .returned (.int .i64 8) ∧ Touch (fun k => k = bd) w w' ∧ IsDisk w' bd bl { D with blown := true } := by
  have HV : Hid (thereI D n m = 0) := Lib.hid (if_neg (by omega))
  have hw := h.touch (Touch.of_below (S := fun _ => False) (wW_below w bd a m c)) id id
  obtain ⟨f0, f1, f2, f3⟩ := hw.field
  have hfr : ∀ i, (wW w bd a m c).frozen? ⟨bd, i, none⟩ = false := fun i => by simp [World.frozen?, hw.cells]
  have H := Lib.hid hw
  have hlt := h.lt
  have fin : Touch (fun k => k = bd) w ((wW w bd a m c).setCell ⟨bd, 2, none⟩ (.bool true)) ∧ IsDisk ((wW w bd a m c).setCell ⟨bd, 2, none⟩ (.bool true)) bd bl { D with blown := true } := by
    refine ⟨(Touch.of_below (wW_below w bd a m c)).setCell _ _ (.inl rfl), ⟨h.apart, h.pos, h.most, h.secs, ?_, ?_⟩⟩
    · rw [heap_setCell_same _ _ _ _ _ _ hw.cells]; rfl
    · rw [Below.heap_setCell _ _ _ _ (Ne.symm h.apart)]; exact hw.row
  rw [wW_set w bd a m c 2 _ hlt.1] at fin
  have HF := Lib.hid fin
  clear h hw fin
  by_cases hB : D.blown = true
  · rw [hB] at f2
    clear hb hB
    go_enter Tryd.func17, Tryd.ntmps17
    go_wp2_with fail
    refine (there_w bd bl D n a m c _ _ _ H.out (wW_cells w bd a m c).1 (wW_cells w bd a m c).2).mono ?_; rintro e w' ⟨rfl, rfl⟩
    rw [HV.out]
    go_wp2_with fail
    go_ret
    exact ⟨rfl, HF.out.1, HF.out.2⟩
  · have hB' : D.blown = false := by simpa using hB
    have hl0 : D.left = 0 := by rcases hb with hb | hb
                                · exact absurd hb hB
                                · exact hb
    rw [hB'] at f2
    rw [hl0] at f1
    clear hb hB hB' hl0
    go_enter Tryd.func17, Tryd.ntmps17
    go_wp2_with fail
    refine (there_w bd bl D n a m c _ _ _ H.out (wW_cells w bd a m c).1 (wW_cells w bd a m c).2).mono ?_; rintro e w' ⟨rfl, rfl⟩
    rw [HV.out]
    go_wp2_with fail
    go_ret
    exact ⟨rfl, HF.out.1, HF.out.2⟩

end Go.Proofs.YtppmpgkkegldnaaDoor
