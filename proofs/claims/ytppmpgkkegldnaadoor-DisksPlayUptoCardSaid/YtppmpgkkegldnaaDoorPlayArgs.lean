/- Opening the arguments of a play on a disk; no condition. -/
import Derived.Test.YtppmpgkkegldnaaDoorOpen
import Derived.Test.YtppmpgkkegldnaaDoorBulk
import Derived.Test.YtppmpgkkegldnaaDoorPlayD
import Derived.Deep.Slices
namespace Go.Proofs.YtppmpgkkegldnaaDoor
open Go.ChangeShapes Go.WideShapes Go.ChangeAt Go.RowKit Go.Deep
set_option linter.unusedVariables false
set_option maxRecDepth 100000

theorem addr_spot {W : World} {a : Addr} {v : Value} (h : W.cell? a = some v) : a = ⟨a.block, a.off, none⟩ ∧ a.block < W.heap.size := by
  obtain ⟨b, off, spot⟩ := a
  have hs : spot = none := World.cell?_spot h
  subst hs
  refine ⟨rfl, ?_⟩
  rcases Nat.lt_or_ge b W.heap.size with h' | h'
  · exact h'
  · simp [World.cell?, Array.getElem?_eq_none h'] at h

theorem choose_list {α : Type} [Inhabited α] (m : Nat) (p : Nat → α → Prop) (h : ∀ i, i < m → ∃ x, p i x) : ∃ L : List α, L.length = m ∧ ∀ i (hi : i < L.length), p i L[i] := by
  induction m with
  | zero => exact ⟨[], rfl, fun i hi => by simp at hi⟩
  | succ m ih =>
    obtain ⟨L, hL, hp⟩ := ih fun i hi => h i (by omega)
    obtain ⟨x, hx⟩ := h m (by omega)
    refine ⟨L ++ [x], by simp [hL], fun i hi => ?_⟩
    by_cases him : i < L.length
    · rw [List.getElem_append_left him]; exact hp i him
    · have : i = L.length := by simp at hi; omega
      subst this
      simp [hL]; exact hx

section
variable {H : Type} {enc : TypeId × Value → H} {W : World} {base b0 : Nat} {held : Bool} {r : Reach}
theorem field_u8 {n : Nat} {t : TypeId} {u : Value} {y : DataW H × List MemPlace} (ht : Tryd.prog.underlying t = some (.int .u8)) (h : DataW.trod enc Tryd.prog W base (fun _ => true) held n t [u] = some y) : ∃ x : UInt8, u = .int .u8 x.toNat := by
  obtain ⟨z, hz, _, hw⟩ := DataW.trod_int ht h
  obtain ⟨x, rfl, hx⟩ := u8_nat hw
  refine ⟨UInt8.ofNat x, ?_⟩
  rw [show (UInt8.ofNat x).toNat = x by simp; omega]
  simpa using hz
theorem field_int {n : Nat} {t : TypeId} {u : Value} {y : DataW H × List MemPlace} (ht : Tryd.prog.underlying t = some (.int .i64)) (h : DataW.trod enc Tryd.prog W base (fun _ => true) held n t [u] = some y) : ∃ x : Int, u = .int .i64 x ∧ -9223372036854775808 ≤ x ∧ x ≤ 9223372036854775807 := by
  obtain ⟨z, hz, _, hw⟩ := DataW.trod_int ht h
  exact ⟨z, by simpa using hz, i64_bounds hw⟩
theorem field_bytes {n : Nat} {t e : TypeId} {u : Value} {y : DataW H × List MemPlace} (ht : Tryd.prog.underlying t = some (.slice e)) (he : Tryd.prog.underlying e = some (.int .u8)) (hc : Tryd.prog.cellsOf e = 1)
    (h : DataW.trod enc Tryd.prog W base (fun _ => true) held n t [u] = some y) : ∃ a n c l, u = .slice a n c ∧ IsB W a n c l ∧ l.length ≤ Rows.uptoBulk y.1 := by
  rcases open_ints ht he hc h with ⟨hcs, _⟩ | ⟨x, l, c, zs, hcs, _, hl, hm, hz, hy, hcell, hwz⟩
  · simp at hcs
    exact ⟨none, 0, 0, [], hcs, isB_nil W, Nat.zero_le _⟩
  · simp at hcs
    obtain ⟨L, hL⟩ := isB_of_ints (a := some x) x zs rfl hl hm (by simpa using hz) hcell hwz
    refine ⟨_, _, _, L, hcs, hL, ?_⟩
    rw [hy, ← hL.1]
    have hzc : zs.length = c := by simpa using hz
    refine Nat.le_trans ?_ (bulks.slice_le _ _)
    simp [lits]
    omega

theorem open_Acts {a : Option Addr} {len cap : Nat} {d : DataW H} {p : List MemPlace} (h : DataW.Trod enc Tryd.prog W base (fun _ => true) held 22 (.slice a len cap) d p) (K : Nat) (hK : Rows.uptoBulk d ≤ K) :
    ∃ L, IsActs W a len cap L ∧ L.length ≤ K ∧ ∀ x ∈ L, x.b.length ≤ K := by
  obtain ⟨fuel, hf⟩ := h
  have ce : Tryd.prog.cellsOf 44 = 3 := by kernel_rfl
  rcases open_slice Tryd.underlying22 hf with ⟨hcs, _⟩ | ⟨x, l, c, m, n, D, Pl, hcs, _, hl, hm, hmm, hd, hx⟩
  · simp [Value.cells] at hcs
    obtain ⟨rfl, rfl, rfl⟩ := hcs
    exact ⟨[], ⟨rfl, Nat.le_refl _, by decide, .inl rfl⟩, Nat.zero_le _, fun x hx => by cases hx⟩
  · simp [Value.cells] at hcs
    obtain ⟨rfl, rfl, rfl⟩ := hcs
    have hd1 : d = .slice ((List.range len).map D) ((List.range (m - len)).map fun j => D (len + j)) := congrArg Prod.fst hd
    rw [hd1] at hK
    have hel := Nat.le_trans (bulks.slice_elems _ _) hK
    have hlen : len ≤ K := by
      have := Nat.le_trans (bulks.slice_le _ _) hK
      simp at this
      omega
    have hDi : ∀ i, i < len → Rows.uptoBulk (D i) ≤ K := fun i hi => by
      have := bulks.part_le (List.mem_map.2 ⟨i, List.mem_range.2 hi, rfl⟩ : D i ∈ (List.range len).map D)
      omega
    by_cases h0 : len = 0
    · subst h0
      exact ⟨[], ⟨rfl, Nat.zero_le _, hm, .inl rfl⟩, Nat.zero_le _, fun x hx => by cases hx⟩
    have hlm : len ≤ m := by rw [hmm]; simp; exact hl
    obtain ⟨L, hL, hp⟩ := choose_list (α := ActD) len (fun i q => W.cell? (x.add (i * 3)) = some (.int .u8 q.kind.toNat) ∧ W.cell? (x.add (i * 3 + 1)) = some (.int .i64 q.n) ∧ (-9223372036854775808 ≤ q.n ∧ q.n ≤ 9223372036854775807) ∧ q.b.length ≤ K ∧ ∃ ai ni ci, W.cell? (x.add (i * 3 + 2)) = some (.slice ai ni ci) ∧ IsB W ai ni ci q.b) (fun i hi => by
      obtain ⟨cs', h1, h2⟩ := hx i (by omega)
      rw [ce] at h1
      obtain ⟨_, hlen3, hcell⟩ := World.cells?_some h1
      obtain ⟨xs, k, hk, hxy, _, hxl, hf3⟩ := DataW.trod_struct Tryd.underlying44 h2
      match xs, hxl, cs', hlen3 with
      | [y0, y1, y2], _, [u0, u1, u2], _ =>
        have g0 := hf3 0 _ rfl
        have g1 := hf3 1 _ rfl
        have g2 := hf3 2 _ rfl
        obtain ⟨z0, e0⟩ := field_u8 (n := k) Tryd.underlying5 g0
        obtain ⟨z1, e1, b1⟩ := field_int (n := k) Tryd.underlying3 g1
        obtain ⟨ai, ni, ci, l2, e2, hB, hbl⟩ := field_bytes (n := k) Tryd.underlying42 Tryd.underlying5 (by kernel_rfl) g2
        have q0 := hcell 0 (by decide)
        have q1 := hcell 1 (by decide)
        have q2 := hcell 2 (by decide)
        rw [add_add] at q0 q1 q2
        simp at e0 e1 e2 q0 q1 q2
        have hDe : D i = .agg [y0.1, y1.1, y2.1] := by simpa using congrArg Prod.fst hxy
        have hDK := hDi i hi
        rw [hDe] at hDK
        simp only [Rows.uptoBulk, Rows.uptoBulkAll] at hDK
        exact ⟨⟨z0, z1, l2⟩, by rw [q0, e0], by rw [q1, e1], b1, by dsimp only; omega, ai, ni, ci, by rw [q2, e2], hB⟩)
    have h00 := (hp 0 (by omega)).1
    simp only [Nat.zero_mul] at h00
    rw [show x.add 0 = x by simp [Addr.add]] at h00
    obtain ⟨hsp, hlt⟩ := addr_spot h00
    obtain ⟨b, off, spot⟩ := x
    simp at hsp
    subst hsp
    refine ⟨L, ⟨hL.symm, by omega, hm, .inr ⟨b, off, rfl, hlt, fun i hi => ?_⟩⟩, by omega, fun y hy => ?_⟩
    · have := hp i hi
      rw [addr_add, addr_add, addr_add] at this
      exact ⟨this.1, this.2.1, this.2.2.1, this.2.2.2.2⟩
    · obtain ⟨i, hi, rfl⟩ := List.getElem_of_mem hy
      exact (hp i hi).2.2.2.1
end
end Go.Proofs.YtppmpgkkegldnaaDoor
