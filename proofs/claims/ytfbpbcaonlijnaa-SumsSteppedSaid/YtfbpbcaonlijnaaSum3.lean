import Derived.Test.YtfbpbcaonlijnaaSum2
namespace Go.Proofs.Ytfbpbcaonlijnaa
open Go.RowKit
set_option linter.unusedVariables false

theorem info5 : (Try.prog.info? 5).map (fun i => (i.zero, i.size, i.bytes)) = some (some (.int .u8 0), 1, 1) := by kernel_rfl
/-- bytes as cells -/
def bcells (l : List UInt8) : List Value := l.map fun b => Value.int .u8 b.toNat
theorem bcells_length (l : List UInt8) : (bcells l).length = l.length := by simp [bcells]
theorem bcells_snoc (l : List UInt8) (k : Nat) (h : k < l.length) : bcells (l.take (k + 1)) = bcells (l.take k) ++ [.int .u8 l[k].toNat] := by
  unfold bcells
  rw [List.take_succ_eq_append_getElem h, List.map_append]; rfl
theorem one_at (w : World) (v : Value) (e : TypeId) : ∀ j u, [v][j]? = some u → (w.alloc (.cells #[v] e)).cell? ((⟨w.heap.size, 0, none⟩ : Addr).add j) = some u := by
  intro j u h
  match j, h with
  | 0, h => simp at h; subst h; simp [Addr.add]
theorem one_cell (v : Value) (h : v.oneCell' = true) : ∀ u ∈ [v], u.oneCell' = true := by
  intro u hu; simp at hu; subst hu; exact h

set_option maxHeartbeats 1000000 in
theorem twin_some (b off cap : Nat) (l : List UInt8) (w : World) (hlen : l.length ≤ 140737488351232) (hb : b < w.heap.size)
    (hc : ∀ i (h : i < l.length), w.cell? ⟨b, off + i, none⟩ = some (.int .u8 l[i].toNat)) :
    Calls Try.prog 8 #[.slice (some ⟨b, off, none⟩) l.length cap] w fun e w' =>
      e = .returned (.slice (some ⟨w.heap.size, 0, none⟩) l.length (l.length + 1)) ∧ Below w.heap.size w w' ∧ w'.ownsRow w.heap.size 5 1 (.slice (some ⟨w.heap.size, 0, none⟩) (l.length + 1) (l.length + 1)) (l.length + 1) (bcells l ++ [.int .u8 77]) := by
  obtain ⟨i0, hi, hz0, hz1, hz2⟩ := info_parts info5
  go_enter Try.func8, Try.ntmps8
  go_wp2_with (refine wpList_make_own _ rfl _ _ 22 rfl w.heap.size 5 i0 (.int .u8 0) 1 Try.underlying22 hi hz0 hz1 .i64 .i64 _ (l.length + 1) rfl rfl (by omega) (by rw [hz2]; omega) (by unfold maxLen; omega) (Nat.le_refl _) ?_; intro w1 hown1 hg1)
  go_loopw [3, 4] (fun v i wr => ∃ k : Nat, k ≤ l.length ∧ i = .int .i64 k ∧ v = .slice (some ⟨w.heap.size, 0, none⟩) k (l.length + 1) ∧ wr.ownsRow w.heap.size 5 1 v k (bcells (l.take k)) ∧ Below w.heap.size w wr) (fun _ i _ => l.length - (intOf i).toNat)
  case atStart => exact ⟨0, Nat.zero_le _, rfl, rfl, hown1, (Below.refl _ _).grown hg1 (Nat.le_refl _) (by simp)⟩
  case round =>
    obtain ⟨k, hk, rfl, rfl, hown, hbel⟩ := hrel
    have hsz := hbel.size
    by_cases hlt : k < l.length
    · have hcell := (hbel.cell (p := ⟨b, off + k, none⟩) hb).trans (hc k hlt)
      have hsn := bcells_snoc l k hlt
      have H : Hid _ := Lib.hid hsn
      clear hsn hc
      go_wp2_with (at_builtin; refine wpList_append_fits _ rfl _ _ 22 rfl w.heap.size 5 i0 1 Try.underlying22 hi hz1 w.heap.size k (l.length + 1) _ rfl (hown.alloc _) ⟨wr.heap.size, 0, none⟩ 1 1 [.int .u8 l[k].toNat] rfl rfl (one_at _ _ _) (one_cell _ rfl) (by omega) ?_; intro w2 hown2 hg2)
      go_roundw
      case rel => exact ⟨k + 1, by omega, by go_num, rfl, by rw [H.out]; exact hown2, (hbel.alloc hsz _).grown hg2 (by simp; omega) (by simp)⟩
      case measure => simp [intOf]; omega
    · have hkk : k = l.length := by omega
      subst hkk
      go_wp2_with (at_builtin; refine wpList_append_fits _ rfl _ _ 22 rfl w.heap.size 5 i0 1 Try.underlying22 hi hz1 w.heap.size l.length (l.length + 1) _ rfl (hown.alloc _) ⟨wr.heap.size, 0, none⟩ 1 1 [.int .u8 77] rfl rfl (one_at _ _ _) (one_cell _ rfl) (by omega) ?_; intro w2 hown2 hg2)
      go_ret
      refine ⟨rfl, (hbel.alloc hsz _).grown hg2 (by simp; omega) (by simp), ?_⟩
      simpa using hown2
end Go.Proofs.Ytfbpbcaonlijnaa
