/- The document's disk: Read; conditions: those typed. -/
import Derived.Test.YtppmpgkkegldnaaDoorRefD
namespace Go.Proofs.YtppmpgkkegldnaaDoor
open Go.RowKit
set_option linter.unusedVariables false
set_option linter.unusedSimpArgs false
set_option maxRecDepth 100000

theorem IsRef.sec {w : World} {B rd rl rc : Nat} {R : Dsk} (h : IsRef w B rd rl rc R) (n : Nat) (hn : n < R.secs.length) : ∃ g, w.cell? ⟨rl, n, none⟩ = some (.slice (some ⟨g, 0, none⟩) 64 64) ∧ RowB w g R.secs[n] := by
  obtain ⟨gs, g1, g2, g3, g4⟩ := h.row
  refine ⟨gs[n]'(by omega), cells_of_owns g2 n _ ?_, (g3 n (by omega) hn).1⟩
  rw [List.getElem?_map, List.getElem?_eq_getElem (by omega)]; rfl

theorem rread_bad (B rd rl rc : Nat) (R : Dsk) (n : Int) (w : World) (h : IsRef w B rd rl rc R) (hn : n < 0 ∨ R.secs.length ≤ n) :
    Calls Tryd.prog 9 #[.pointer (some ⟨rd, 0, none⟩), .int .i64 n] w fun e w' => e = .returned (.tuple #[.slice none 0 0, .int .i64 1]) ∧ w = w' := by
  obtain ⟨f0, f1, f2, f3⟩ := h.field
  clear h
  rcases hn with hn | hn
  · have h0 : decide (n < (0 : Int)) = true := by simpa using hn
    go_enter Tryd.func9, Tryd.ntmps9
    go_wp2
    go_ret2
    exact ⟨rfl, rfl⟩
  · have h0 : decide (n < (0 : Int)) = false := by simp; omega
    have h1 : decide ((R.secs.length : Int) ≤ n) = true := by simpa using hn
    go_enter Tryd.func9, Tryd.ntmps9
    go_wp2
    go_ret2
    exact ⟨rfl, rfl⟩

theorem rread_good (B rd rl rc : Nat) (R : Dsk) (n : Nat) (w : World) (h : IsRef w B rd rl rc R) (hn : n < R.secs.length) :
    Calls Tryd.prog 9 #[.pointer (some ⟨rd, 0, none⟩), .int .i64 n] w fun e w' => ∃ a c, e = .returned (.tuple #[.slice a 64 c, .int .i64 0]) ∧ Below w.heap.size w w' ∧ IsB w' a 64 c R.secs[n] := by
  obtain ⟨f0, f1, f2, f3⟩ := h.field
  obtain ⟨g, c1, hr⟩ := h.sec n hn
  have h64 := h.secs _ (List.getElem_mem hn)
  have hmost := h.most
  have hat : At w (some ⟨g, 0, none⟩) (bcells R.secs[n]) := At.of_cells fun j hj => by
    rw [Nat.zero_add, cell_of_block hr, List.getElem?_toArray, List.getElem?_eq_getElem hj]
  have h0 : decide ((n : Int) < (0 : Int)) = false := by simp
  have h1 : decide ((R.secs.length : Int) ≤ (n : Int)) = false := by simp; omega
  have HL : Hid ((bcells R.secs[n]).length = 64 * 1) := Lib.hid (by rw [bcells_length, h64])
  have HO := Lib.hid (bcells_one R.secs[n])
  obtain ⟨cs, hcs⟩ : ∃ cs, cs = bcells R.secs[n] := ⟨_, rfl⟩
  rw [← hcs] at hat HL HO
  have HC := Lib.hid hcs
  have H64 := Lib.hid h64
  clear hr h64 h hcs
  go_enter Tryd.func9, Tryd.ntmps9
  go_wp2_with (first
    | (at_builtin; refine wpList_append_any rowU8 rfl (.const (.slice none 0 0)) (.tmp 23) rfl w.heap.size (.slice none 0 0) 0 [] rfl (World.ownsRow_nil _ _ _ _) (some ⟨g, 0, none⟩) 64 64 cs rfl HL.out hat HO.out (by decide) (by decide) (by simp) ?_; intro b2 c2 w2 hown2 hg2 hat2; simp only [Nat.zero_add, List.nil_append] at hown2 hat2)
    | fail)
  go_ret2
  rw [HC.out] at hown2
  have hb2 : Below w.heap.size w w2 := (Below.refl _ _).grown hg2 (Nat.le_refl _) (by simp [Value.ownBlock])
  exact ⟨b2, c2, rfl, hb2, isB_of_owns hown2 H64.out.symm⟩

def Dsk.read (R : Dsk) (n : Int) : Int × List UInt8 := if n < 0 ∨ (R.secs.length : Int) ≤ n then (1, []) else (0, R.secs.getD n.toNat [])
theorem rread_any (B rd rl rc : Nat) (R : Dsk) (n : Int) (w : World) (h : IsRef w B rd rl rc R) :
    Calls Tryd.prog 9 #[.pointer (some ⟨rd, 0, none⟩), .int .i64 n] w fun e w' => ∃ a m c, e = .returned (.tuple #[.slice a m c, .int .i64 (R.read n).1]) ∧ Below w.heap.size w w' ∧ IsB w' a m c (R.read n).2 := by
  by_cases hn : n < 0 ∨ (R.secs.length : Int) ≤ n
  · have e : R.read n = (1, []) := if_pos hn
    rw [e]
    exact (rread_bad B rd rl rc R n w h hn).mono fun e w' h => ⟨none, 0, 0, h.1, h.2 ▸ Below.refl _ _, isB_nil _⟩
  · obtain ⟨k, rfl⟩ := Int.eq_ofNat_of_zero_le (show 0 ≤ n by omega)
    have hk : k < R.secs.length := by omega
    have e : R.read k = (0, R.secs[k]) := by unfold Dsk.read; rw [if_neg hn]; simp [hk]
    rw [e]
    exact (rread_good B rd rl rc R k w h hk).mono fun e w' h => by obtain ⟨a, c, h1, h2, h3⟩ := h; exact ⟨a, 64, c, h1, h2, h3⟩

/-- The disk's Read, with the block of what it answers. -/
theorem dread_any (bd bl : Nat) (D : Dsk) (n : Int) (w : World) (h : IsDisk w bd bl D) :
    Calls Tryd.prog 8 #[.pointer (some ⟨bd, 0, none⟩), .int .i64 n] w fun e w' => ∃ a m c, e = .returned (.tuple #[.slice a m c, .int .i64 (D.read n).1]) ∧ Below w.heap.size w w' ∧ IsB w' a m c (D.read n).2 ∧
      ((a = none ∧ m = 0 ∧ c = 0) ∨ ∃ g, a = some ⟨g, 0, none⟩ ∧ m = 64 ∧ c = 64 ∧ w.heap.size ≤ g ∧ ∃ l, l.length = 64 ∧ RowB w' g l) := by
  by_cases hn : n < 0 ∨ (D.secs.length : Int) ≤ n
  · have e : D.read n = (1, []) := if_pos hn
    rw [e]
    exact (read_bad bd bl D n w h hn).mono fun e w' h => ⟨none, 0, 0, h.1, h.2 ▸ Below.refl _ _, isB_nil _, .inl ⟨rfl, rfl, rfl⟩⟩
  · obtain ⟨k, rfl⟩ := Int.eq_ofNat_of_zero_le (show 0 ≤ n by omega)
    have hk : k < D.secs.length := by omega
    have e : D.read k = (0, D.secs[k]) := by unfold Dsk.read; rw [if_neg hn]; simp [hk]
    have h64 := h.secs _ (List.getElem_mem hk)
    rw [e]
    exact (read_good bd bl D k w h hk).mono fun e w' h => by
      obtain ⟨g, h1, h2, h3, h4⟩ := h
      have := h4.isB (by rw [h64]; decide)
      rw [h64] at this
      exact ⟨some ⟨g, 0, none⟩, 64, 64, h1, h2, this, .inr ⟨g, rfl, rfl, rfl, h3, _, h64, h4⟩⟩

end Go.Proofs.YtppmpgkkegldnaaDoor
