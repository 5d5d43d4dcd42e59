/- Opening arguments field by field, with their bulk; no condition. -/
import Derived.Test.YthadgnaaipdpaaaGreatDoorOpen
import Derived.Test.YthadgnaaipdpaaaGreatDoorBulk
import Derived.Deep.Slices
namespace Go.Proofs.YthadgnaaipdpaaaGreatDoor
open Go.ChangeShapes Go.WideShapes Go.ChangeAt Go.RowKit Go.Deep
set_option linter.unusedVariables false
set_option maxRecDepth 100000

theorem addr_spot {W : World} {a : Addr} {v : Value} (h : W.cell? a = some v) : a = ⟨a.block, a.off, none⟩ ∧ a.block < W.heap.size := by
  obtain ⟨b, off, spot⟩ := a
  have hs : spot = none := World.cell?_spot h
  subst hs
  refine ⟨rfl, ?_⟩
  rcases Nat.lt_or_ge b W.heap.size with h' | h'
  · exact h'
  · simp [World.cell?, Array.getElem?_eq_none h'] at h

theorem choose_list {α : Type} [Inhabited α] (m : Nat) (p : Nat → α → Prop) (h : ∀ i, i < m → ∃ x, p i x) : ∃ L : List α, L.length = m ∧ ∀ i (hi : i < L.length), p i L[i] := by
  induction m with
  | zero => exact ⟨[], rfl, fun i hi => by simp at hi⟩
  | succ m ih =>
    obtain ⟨L, hL, hp⟩ := ih fun i hi => h i (by omega)
    obtain ⟨x, hx⟩ := h m (by omega)
    refine ⟨L ++ [x], by simp [hL], fun i hi => ?_⟩
    by_cases him : i < L.length
    · rw [List.getElem_append_left him]; exact hp i him
    · have : i = L.length := by simp at hi; omega
      subst this
      simp [hL]; exact hx

section
variable {H : Type} {enc : TypeId × Value → H} {W : World} {base b0 : Nat} {held : Bool} {r : Reach}
theorem field_u8 {n : Nat} {t : TypeId} {u : Value} {y : DataW H × List MemPlace} (ht : Tryz.prog.underlying t = some (.int .u8)) (h : DataW.trod enc Tryz.prog W base (fun _ => true) held n t [u] = some y) : ∃ x : UInt8, u = .int .u8 x.toNat := by
  obtain ⟨z, hz, _, hw⟩ := DataW.trod_int ht h
  obtain ⟨x, rfl, hx⟩ := u8_nat hw
  refine ⟨UInt8.ofNat x, ?_⟩
  rw [show (UInt8.ofNat x).toNat = x by simp; omega]
  simpa using hz
theorem field_int {n : Nat} {t : TypeId} {u : Value} {y : DataW H × List MemPlace} (ht : Tryz.prog.underlying t = some (.int .i64)) (h : DataW.trod enc Tryz.prog W base (fun _ => true) held n t [u] = some y) : ∃ x : Int, u = .int .i64 x ∧ -9223372036854775808 ≤ x ∧ x ≤ 9223372036854775807 := by
  obtain ⟨z, hz, _, hw⟩ := DataW.trod_int ht h
  exact ⟨z, by simpa using hz, i64_bounds hw⟩
theorem field_bytes {n : Nat} {t e : TypeId} {u : Value} {y : DataW H × List MemPlace} (ht : Tryz.prog.underlying t = some (.slice e)) (he : Tryz.prog.underlying e = some (.int .u8)) (hc : Tryz.prog.cellsOf e = 1)
    (h : DataW.trod enc Tryz.prog W base (fun _ => true) held n t [u] = some y) : ∃ a n c l, u = .slice a n c ∧ IsB W a n c l ∧ l.length ≤ Rows.uptoBulk y.1 := by
  rcases open_ints ht he hc h with ⟨hcs, _⟩ | ⟨x, l, c, zs, hcs, _, hl, hm, hz, hy, hcell, hwz⟩
  · simp at hcs
    exact ⟨none, 0, 0, [], hcs, isB_nil W, Nat.zero_le _⟩
  · simp at hcs
    obtain ⟨L, hL⟩ := isB_of_ints (a := some x) x zs rfl hl hm (by simpa using hz) hcell hwz
    refine ⟨_, _, _, L, hcs, hL, ?_⟩
    rw [hy, ← hL.1]
    have hzc : zs.length = c := by simpa using hz
    refine Nat.le_trans ?_ (bulks.slice_le _ _)
    simp [lits]
    omega
theorem field_u32 {n : Nat} {t : TypeId} {u : Value} {y : DataW H × List MemPlace} (ht : Tryz.prog.underlying t = some (.int .u32)) (h : DataW.trod enc Tryz.prog W base (fun _ => true) held n t [u] = some y) : ∃ x : Nat, u = .int .u32 x ∧ x < 4294967296 := by
  obtain ⟨z, hz, _, hw⟩ := DataW.trod_int ht h
  obtain ⟨x, rfl, hx⟩ := u32_nat hw
  exact ⟨x, by simpa using hz, hx⟩
end

end Go.Proofs.YthadgnaaipdpaaaGreatDoor
