/- Layer 20: Great; conditions: those typed. -/
import Derived.Test.YtggjhbpggddjmaaGreatStArg2
import Derived.Test.YtggjhbpggddjmaaGreatGStTw
namespace Go.Proofs.YtggjhbpggddjmaaGreat
open Go.RowKit
set_option linter.unusedVariables false
set_option linter.unusedSimpArgs false

theorem isBB_cells {w : World} {P : Nat → Prop} {a : Option Addr} {n c : Nat} {vs : List Value} {L : List (List UInt8)} (h : IsBBp w P a n c vs L) (k : Nat) (hk : k < L.length) : ∃ b off x y z, a = some ⟨b, off, none⟩ ∧ b < w.heap.size ∧ w.cell? ⟨b, off + k, none⟩ = some (.slice x y z) := by
  obtain ⟨h0, h1, h2, hv, hc⟩ := h
  rcases hc with h0 | ⟨b, off, rfl, _, hlt, hc⟩
  · rw [h0] at hk; simp at hk
  · obtain ⟨x, y, z, h3, h4⟩ := hv.2 k hk
    have hkv : k < vs.length := by rw [hv.1]; exact hk
    rw [List.getElem?_eq_getElem hkv] at h3
    have := hc k hkv
    rw [Option.some.inj h3] at this
    exact ⟨b, off, x, y, z, rfl, hlt, this⟩

set_option maxRecDepth 100000 in
set_option maxHeartbeats 8000000 in
theorem great_any (P : Nat → Prop) (x : StA) (c : StC) (la : Option Addr) (ln lc : Nat) (L : List AcV) (w : World) (hc : IsCf w P x c) (hL : IsRows AcV.cells 10 w la ln lc L) (hm : L.length ≤ 2199023255552) (hcm : c.s.length ≤ 100000000) :
    Calls Tryz.prog 16 #[.agg (x.cells c.t).toArray, .slice la ln lc] w fun e w' => (∃ b, e = .returned (.bool b)) ∧ Below w.heap.size w w' := by
  obtain ⟨ra, rn, rc, sa, sn, sc, sv, aa, an, ac, ua, un, uc⟩ := x
  obtain rfl : sn = c.s.length := hc.s.1
  obtain rfl := hL.1
  unfold StA.cells
  dsimp only
  have hb0 : Below w.heap.size w (w.alloc (.cells #[.slice ra rn rc, .slice sa c.s.length sc, .slice aa an ac, .slice ua un uc, .int .u64 (c.t : Int)] 27)) := (Below.refl _ _).alloc (Nat.le_refl _) _
  have hv := heap_new w (.cells #[.slice ra rn rc, .slice sa c.s.length sc, .slice aa an ac, .slice ua un uc, .int .u64 (c.t : Int)] 27 (0, 0))
  have HS := Lib.hid (isBB_cells hc.s)
  have HL := Lib.hid hL
  clear hc hL
  go_enter Tryz.func16, Tryz.ntmps16
  go_wp2_with fail
  generalize w.alloc (.cells #[.slice ra rn rc, .slice sa c.s.length sc, .slice aa an ac, .slice ua un uc, .int .u64 (c.t : Int)] 27) = w0 at hb0 hv ⊢
  have f0 : w0.cell? ⟨w.heap.size, 0, none⟩ = some (.slice ra rn rc) := by rw [cell_of_block hv]; rfl
  have f1 : w0.cell? ⟨w.heap.size, 1, none⟩ = some (.slice sa c.s.length sc) := by rw [cell_of_block hv]; rfl
  have f2 : w0.cell? ⟨w.heap.size, 2, none⟩ = some (.slice aa an ac) := by rw [cell_of_block hv]; rfl
  have f3 : w0.cell? ⟨w.heap.size, 3, none⟩ = some (.slice ua un uc) := by rw [cell_of_block hv]; rfl
  have HB0 := Lib.hid hb0
  clear hb0 hv
  go_wp2_with fail
  generalize wrap64 (wrap64 (wrap64 ((rn : Int) + (c.s.length : Int)) + wrap64 ((an : Int) / 10)) + wrap64 ((un : Int) / 10)) = n0
  obtain ⟨N, hN⟩ : ∃ N, N = c.s.length := ⟨_, rfl⟩
  have HN := Lib.hid hN
  clear hN
  go_loopw [6, 5] (fun i s wr => ∃ k : Nat, ∃ z : Int, k ≤ c.s.length ∧ i = .int .i64 k ∧ s = .int .i64 z ∧ w0 = wr) (fun i _ _ => N - (intOf i).toNat)
  case atStart => exact ⟨0, n0, Nat.zero_le _, rfl, rfl, rfl⟩
  case round =>
    obtain ⟨k, z, hk, rfl, rfl, rfl⟩ := hrel
    by_cases hlt : k < c.s.length
    · obtain ⟨sb, so, x1, y1, z1, rfl, hsb, hsc⟩ := HS.out k hlt
      have e1 : w0.cell? ⟨sb, so + k, none⟩ = some (.slice x1 y1 z1) := (HB0.out.cell (p := ⟨sb, so + k, none⟩) hsb).trans hsc
      clear hsc
      go_wp2_with fail
      go_roundw
      case rel => exact ⟨k + 1, _, by omega, by go_num, rfl, trivial⟩
      case measure => have := HN.out; simp [intOf]; omega
    · have hkk : k = c.s.length := by omega
      subst hkk
      go_wp2_with fail
      obtain ⟨M, hM⟩ : ∃ M, M = L.length := ⟨_, rfl⟩
      have HM := Lib.hid hM
      clear hM
      go_loopw [7, 5] (fun i s wr => ∃ j : Nat, ∃ z : Int, ∃ q : Nat, j ≤ L.length ∧ i = .int .i64 j ∧ s = .int .i64 z ∧ wr = w0.drewN q) (fun i _ _ => M - (intOf i).toNat)
      case atStart => exact ⟨0, z, 0, Nat.zero_le _, rfl, rfl, rfl⟩
      case round =>
        obtain ⟨j, z2, q, hj, rfl, rfl, rfl⟩ := hrel
        by_cases hlt2 : j < L.length
        · obtain ⟨lb, lo, rfl, hlb, hcells⟩ : ∃ lb lo, la = some ⟨lb, lo, none⟩ ∧ lb < w.heap.size ∧ ∀ i (hi : i < L.length) j v, (L[i].cells)[j]? = some v → w.cell? ⟨lb, lo + i * 10 + j, none⟩ = some v := by
            rcases HL.out.2.2.2 with h | h
            · rw [h] at hlt2; exact absurd hlt2 (by simp)
            · exact h
          have c4 := hcells j hlt2 4 _ rfl
          have c6 := hcells j hlt2 6 _ rfl
          have c9 := hcells j hlt2 9 _ rfl
          clear hcells
          generalize L[j] = xa at c4 c6 c9
          obtain ⟨k1, who, ⟨sq, st, ba, bn, bc, bl⟩, p1, oa, on, oc, ol, n1, at1, b1, b2, b3, b4⟩ := xa
          dsimp only at c4 c6 c9
          have e4 : w0.cell? ⟨lb, lo + j * 10 + 2 + 2, none⟩ = some (.slice ba bn bc) := (HB0.out.cell (p := ⟨lb, lo + j * 10 + 4, none⟩) hlb).trans c4
          have e6 : w0.cell? ⟨lb, lo + j * 10 + 6, none⟩ = some (.slice oa on oc) := (HB0.out.cell (p := ⟨lb, lo + j * 10 + 6, none⟩) hlb).trans c6
          have e9 : w0.cell? ⟨lb, lo + j * 10 + 9, none⟩ = some (.slice b1 b2 b3) := (HB0.out.cell (p := ⟨lb, lo + j * 10 + 9, none⟩) hlb).trans c9
          clear c4 c6 c9
          go_wp2_with fail
          go_quiet (fail)
          go_wp2_with fail
          go_roundw
          case rel => exact ⟨j + 1, _, _, by omega, by go_num, rfl, rfl⟩
          case measure => have := HM.out; simp [intOf]; omega
        · have hjj : j = L.length := by omega
          subst hjj
          go_wp2_with fail
          go_ret
          exact ⟨⟨_, rfl⟩, HB0.out.trans (below_drewN (Below.refl _ _) _ |>.mono HB0.out.size)⟩

end Go.Proofs.YtggjhbpggddjmaaGreat
