/- Opening the arguments of layer 3's statements; no condition. -/
import Derived.Test.YtolnhjjggjbckaaOpen
import Derived.Test.YtolnhjjggjbckaaDisksA
import Derived.Deep.SlicePairs
namespace Go.Proofs.Ytolnhjjggjbckaa
open Go.ChangeShapes Go.WideShapes Go.ChangeAt Go.RowKit Go.Deep
set_option linter.unusedVariables false

/-- A slice of writes that reads as a list. -/
def IsWs (w : World) (a : Option Addr) (n c : Nat) (L : List (UInt8 × List UInt8)) : Prop :=
  n = L.length ∧ L.length ≤ c ∧ c ≤ maxLen ∧ (L = [] ∨ ∃ b off, a = some ⟨b, off, none⟩ ∧ b < w.heap.size ∧ ∀ i (h : i < L.length), w.cell? ⟨b, off + i * 2, none⟩ = some (.int .u8 L[i].1.toNat) ∧
    ∃ ai ni ci, w.cell? ⟨b, off + i * 2 + 1, none⟩ = some (.slice ai ni ci) ∧ IsB w ai ni ci L[i].2)
theorem IsWs.below {w w' : World} {a : Option Addr} {n c : Nat} {L : List (UInt8 × List UInt8)} (h : IsWs w a n c L) (hb : Below w.heap.size w w') : IsWs w' a n c L := by
  obtain ⟨h1, h2, h3, h4 | ⟨b, off, rfl, hlt, hc⟩⟩ := h
  · exact ⟨h1, h2, h3, .inl h4⟩
  · refine ⟨h1, h2, h3, .inr ⟨b, off, rfl, Nat.lt_of_lt_of_le hlt hb.size, fun i hi => ?_⟩⟩
    obtain ⟨c1, ai, ni, ci, c2, hB⟩ := hc i hi
    exact ⟨(hb.cell (p := ⟨b, _, none⟩) hlt).trans c1, ai, ni, ci, (hb.cell (p := ⟨b, _, none⟩) hlt).trans c2, hB.below hb⟩

section
variable {H : Type} {enc : TypeId × Value → H} {W : World} {base b0 : Nat} {held : Bool} {r : Reach}
theorem field_u8 {n : Nat} {t : TypeId} {u : Value} {y : DataW H × List MemPlace} (ht : Try.prog.underlying t = some (.int .u8)) (h : DataW.trod enc Try.prog W base (fun _ => true) held n t [u] = some y) : ∃ x : UInt8, u = .int .u8 x.toNat := by
  obtain ⟨z, hz, _, hw⟩ := DataW.trod_int ht h
  obtain ⟨x, rfl, hx⟩ := u8_nat hw
  refine ⟨UInt8.ofNat x, ?_⟩
  rw [show (UInt8.ofNat x).toNat = x by simp; omega]
  simpa using hz
theorem field_bytes {n : Nat} {t e : TypeId} {u : Value} {y : DataW H × List MemPlace} (ht : Try.prog.underlying t = some (.slice e)) (he : Try.prog.underlying e = some (.int .u8)) (hc : Try.prog.cellsOf e = 1)
    (h : DataW.trod enc Try.prog W base (fun _ => true) held n t [u] = some y) : ∃ a n c l, u = .slice a n c ∧ IsB W a n c l := by
  rcases open_ints ht he hc h with ⟨hcs, _⟩ | ⟨x, l, c, zs, hcs, _, hl, hm, hz, _, hcell, hwz⟩
  · simp at hcs
    exact ⟨none, 0, 0, [], hcs, isB_nil W⟩
  · simp at hcs
    obtain ⟨L, hL⟩ := isB_of_ints (a := some x) x zs rfl hl hm (by simpa using hz) hcell hwz
    exact ⟨_, _, _, L, hcs, hL⟩

theorem addr_spot {W : World} {a : Addr} {v : Value} (h : W.cell? a = some v) : a = ⟨a.block, a.off, none⟩ ∧ a.block < W.heap.size := by
  obtain ⟨b, off, spot⟩ := a
  have hs : spot = none := World.cell?_spot h
  subst hs
  refine ⟨rfl, ?_⟩
  rcases Nat.lt_or_ge b W.heap.size with h' | h'
  · exact h'
  · simp [World.cell?, Array.getElem?_eq_none h'] at h

theorem choose_list {α : Type} [Inhabited α] (m : Nat) (p : Nat → α → Prop) (h : ∀ i, i < m → ∃ x, p i x) : ∃ L : List α, L.length = m ∧ ∀ i (hi : i < L.length), p i L[i] := by
  induction m with
  | zero => exact ⟨[], rfl, fun i hi => by simp at hi⟩
  | succ m ih =>
    obtain ⟨L, hL, hp⟩ := ih fun i hi => h i (by omega)
    obtain ⟨x, hx⟩ := h m (by omega)
    refine ⟨L ++ [x], by simp [hL], fun i hi => ?_⟩
    by_cases him : i < L.length
    · rw [List.getElem_append_left him]; exact hp i him
    · have : i = L.length := by simp at hi; omega
      subst this
      simp [hL]; exact hx

theorem open_Writes {a : Option Addr} {len cap : Nat} {d : DataW H} {p : List MemPlace} (h : DataW.Trod enc Try.prog W base (fun _ => true) held 38 (.slice a len cap) d p) : ∃ L, IsWs W a len cap L := by
  obtain ⟨fuel, hf⟩ := h
  rcases open_slice_pairs Try.underlying38 Try.underlying41 (by kernel_rfl) rfl rfl (by kernel_rfl) (by kernel_rfl) hf with ⟨hcs, _⟩ | ⟨x, l, c, m, n, V0, V1, D0, D1, P0, P1, hcs, _, hl, hm, hmm, _, hx⟩
  · simp [Value.cells] at hcs
    obtain ⟨rfl, rfl, rfl⟩ := hcs
    exact ⟨[], rfl, Nat.le_refl _, by decide, .inl rfl⟩
  · simp [Value.cells] at hcs
    obtain ⟨rfl, rfl, rfl⟩ := hcs
    by_cases h0 : len = 0
    · subst h0
      exact ⟨[], rfl, Nat.zero_le _, hm, .inl rfl⟩
    have hlm : len ≤ m := by rw [hmm]; simp; exact hl
    obtain ⟨L, hL, hp⟩ := choose_list (α := UInt8 × List UInt8) len (fun i q => W.cell? (x.add (i * 2)) = some (.int .u8 q.1.toNat) ∧ ∃ ai ni ci, W.cell? (x.add (i * 2 + 1)) = some (.slice ai ni ci) ∧ IsB W ai ni ci q.2) (fun i hi => by
      obtain ⟨c0, c1, t0, t1⟩ := hx i (by omega)
      obtain ⟨u, hu⟩ := field_u8 (n := n) Try.underlying5 t0
      obtain ⟨ai, ni, ci, l, hv, hB⟩ := field_bytes (n := n) Try.underlying22 Try.underlying5 (by kernel_rfl) t1
      rw [hu] at c0
      rw [hv] at c1
      exact ⟨(u, l), c0, ai, ni, ci, c1, hB⟩)
    have h00 := (hp 0 (by omega)).1
    simp only [Nat.zero_mul] at h00
    rw [show x.add 0 = x by simp [Addr.add]] at h00
    obtain ⟨hsp, hlt⟩ := addr_spot h00
    obtain ⟨b, off, spot⟩ := x
    simp at hsp
    subst hsp
    refine ⟨L, hL.symm, by omega, hm, .inr ⟨b, off, rfl, hlt, fun i hi => ?_⟩⟩
    have := hp i hi
    rw [addr_add, addr_add] at this
    exact this

theorem open_WritesV {v : Value} {d : DataW H} {p : List MemPlace} (hv : Value.okWide Try.prog W r b0 38 v) (h : DataW.Trod enc Try.prog W base (fun _ => true) held 38 v d p) :
    ∃ (a : Option Addr) (n c : Nat) (L : List (UInt8 × List UInt8)), v = .slice a n c ∧ IsWs W a n c L := by
  obtain ⟨a0, len0, cap0, rfl⟩ := okWide_slice Try.underlying38 hv
  obtain ⟨L, hL⟩ := open_Writes h
  exact ⟨a0, len0, cap0, L, rfl, hL⟩

theorem open_Write {v : Value} {d : DataW H} {p : List MemPlace} (hv : Value.okWide Try.prog W r b0 41 v) (h : DataW.Trod enc Try.prog W base (fun _ => true) held 41 v d p) :
    ∃ (x : UInt8) (a : Option Addr) (n c : Nat) (l : List UInt8), v = .agg #[.int .u8 x.toNat, .slice a n c] ∧ IsB W a n c l := by
  obtain ⟨cs, n, rfl, hsz, hf⟩ := open_aggN Try.underlying41 (by kernel_rfl) (by kernel_rfl) hv h
  obtain ⟨u0, y0, c0, h0⟩ := hf 0 _ rfl
  obtain ⟨u1, y1, c1, h1⟩ := hf 1 _ rfl
  obtain ⟨x0, rfl⟩ := field_u8 (n := n) Try.underlying5 h0
  obtain ⟨a, m, c, l, rfl, hB⟩ := field_bytes (n := n) Try.underlying22 Try.underlying5 (by kernel_rfl) h1
  refine ⟨x0, a, m, c, l, ?_, hB⟩
  congr 1
  obtain ⟨l'⟩ := cs
  match l', hsz with
  | [e0, e1], _ => simp at c0 c1; rw [c0, c1]
end
end Go.Proofs.Ytolnhjjggjbckaa
