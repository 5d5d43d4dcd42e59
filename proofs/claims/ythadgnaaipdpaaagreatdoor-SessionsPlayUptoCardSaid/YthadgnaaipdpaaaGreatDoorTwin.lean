/- The statements' helper TwinBytes; no condition but those typed. -/
import Derived.Test.YthadgnaaipdpaaaGreatDoorBase
namespace Go.Proofs.YthadgnaaipdpaaaGreatDoor
open Go.RowKit Go.ChangeShapes Go.WideShapes Go.ChangeAt
set_option linter.unusedVariables false

theorem info5 : (Tryz.prog.info? 5).map (fun i => (i.zero, i.size, i.bytes)) = some (some (.int .u8 0), 1, 1) := by kernel_rfl

set_option maxHeartbeats 1000000 in
theorem twin_some (b off cap : Nat) (l : List UInt8) (w : World) (hlen : l.length ≤ 140737488351232) (hb : b < w.heap.size)
    (hc : ∀ i (h : i < l.length), w.cell? ⟨b, off + i, none⟩ = some (.int .u8 l[i].toNat)) :
    Calls Tryz.prog 10 #[.slice (some ⟨b, off, none⟩) l.length cap] w fun e w' =>
      e = .returned (.slice (some ⟨w.heap.size, 0, none⟩) l.length (l.length + 1)) ∧ Below w.heap.size w w' ∧ w'.ownsRow w.heap.size 5 1 (.slice (some ⟨w.heap.size, 0, none⟩) (l.length + 1) (l.length + 1)) (l.length + 1) (bcells l ++ [.int .u8 77]) := by
  obtain ⟨i0, hi, hz0, hz1, hz2⟩ := info_parts info5
  go_enter Tryz.func10, Tryz.ntmps10
  go_wp2_with (refine wpList_make_own _ rfl _ _ 24 rfl w.heap.size 5 i0 (.int .u8 0) 1 Tryz.underlying24 hi hz0 hz1 .i64 .i64 _ (l.length + 1) rfl rfl (by omega) (by rw [hz2]; omega) (by unfold maxLen; omega) (Nat.le_refl _) ?_; intro w1 hown1 hg1)
  go_loopw [3, 4] (fun v i wr => ∃ k : Nat, k ≤ l.length ∧ i = .int .i64 k ∧ v = .slice (some ⟨w.heap.size, 0, none⟩) k (l.length + 1) ∧ wr.ownsRow w.heap.size 5 1 v k (bcells (l.take k)) ∧ Below w.heap.size w wr) (fun _ i _ => l.length - (intOf i).toNat)
  case atStart => exact ⟨0, Nat.zero_le _, rfl, rfl, hown1, (Below.refl _ _).grown hg1 (Nat.le_refl _) (by simp)⟩
  case round =>
    obtain ⟨k, hk, rfl, rfl, hown, hbel⟩ := hrel
    have hsz := hbel.size
    by_cases hlt : k < l.length
    · have hcell := (hbel.cell (p := ⟨b, off + k, none⟩) hb).trans (hc k hlt)
      have hsn := bcells_snoc l k hlt
      have H : Hid _ := Lib.hid hsn
      clear hsn hc
      go_wp2_with (at_builtin; refine wpList_append_fits _ rfl _ _ 24 rfl w.heap.size 5 i0 1 Tryz.underlying24 hi hz1 w.heap.size k (l.length + 1) _ rfl (hown.alloc _) ⟨wr.heap.size, 0, none⟩ 1 1 [.int .u8 l[k].toNat] rfl rfl (one_at _ _ _) (one_cell _ rfl) (by omega) ?_; intro w2 hown2 hg2)
      go_roundw
      case rel => exact ⟨k + 1, by omega, by go_num, rfl, by rw [H.out]; exact hown2, (hbel.alloc hsz _).grown hg2 (by simp; omega) (by simp)⟩
      case measure => simp [intOf]; omega
    · have hkk : k = l.length := by omega
      subst hkk
      go_wp2_with (at_builtin; refine wpList_append_fits _ rfl _ _ 24 rfl w.heap.size 5 i0 1 Tryz.underlying24 hi hz1 w.heap.size l.length (l.length + 1) _ rfl (hown.alloc _) ⟨wr.heap.size, 0, none⟩ 1 1 [.int .u8 77] rfl rfl (one_at _ _ _) (one_cell _ rfl) (by omega) ?_; intro w2 hown2 hg2)
      go_ret
      refine ⟨rfl, (hbel.alloc hsz _).grown hg2 (by simp; omega) (by simp), ?_⟩
      simpa using hown2

set_option maxHeartbeats 1000000 in
theorem twin_nil (a : Option Addr) (c : Nat) (w : World) :
    Calls Tryz.prog 10 #[.slice a 0 c] w fun e w' =>
      e = .returned (.slice (some ⟨w.heap.size, 0, none⟩) 0 1) ∧ Below w.heap.size w w' ∧ w'.ownsRow w.heap.size 5 1 (.slice (some ⟨w.heap.size, 0, none⟩) 1 1) 1 [.int .u8 77] := by
  obtain ⟨i0, hi, hz0, hz1, hz2⟩ := info_parts info5
  go_enter Tryz.func10, Tryz.ntmps10
  go_wp2_with (refine wpList_make_own _ rfl _ _ 24 rfl w.heap.size 5 i0 (.int .u8 0) 1 Tryz.underlying24 hi hz0 hz1 .i64 .i64 _ 1 rfl rfl (by omega) (by rw [hz2]; omega) (by unfold maxLen; omega) (Nat.le_refl _) ?_; intro w1 hown1 hg1)
  go_loopw [3, 4] (fun v i wr => i = .int .i64 0 ∧ v = .slice (some ⟨w.heap.size, 0, none⟩) 0 1 ∧ wr.ownsRow w.heap.size 5 1 v 0 [] ∧ Below w.heap.size w wr) (fun _ _ _ => 0)
  case atStart => exact ⟨rfl, rfl, hown1, (Below.refl _ _).grown hg1 (Nat.le_refl _) (by simp)⟩
  case round =>
    obtain ⟨rfl, rfl, hown, hbel⟩ := hrel
    have hsz := hbel.size
    go_wp2_with (at_builtin; refine wpList_append_fits _ rfl _ _ 24 rfl w.heap.size 5 i0 1 Tryz.underlying24 hi hz1 w.heap.size 0 1 _ rfl (hown.alloc _) ⟨wr.heap.size, 0, none⟩ 1 1 [.int .u8 77] rfl rfl (one_at _ _ _) (one_cell _ rfl) (by omega) ?_; intro w2 hown2 hg2)
    go_ret
    refine ⟨rfl, (hbel.alloc hsz _).grown hg2 (by simp; omega) (by simp), ?_⟩
    simpa using hown2

theorem twin_any (a : Option Addr) (m cap : Nat) (l : List UInt8) (w : World) (hm : l.length ≤ 140737488351232) (h : IsB w a m cap l) :
    Calls Tryz.prog 10 #[.slice a m cap] w fun e w' => e = .returned (.slice (some ⟨w.heap.size, 0, none⟩) m (m + 1)) ∧ Below w.heap.size w w' ∧ w'.ownsRow w.heap.size 5 1 (.slice (some ⟨w.heap.size, 0, none⟩) (m + 1) (m + 1)) (m + 1) (bcells l ++ [.int .u8 77]) := by
  obtain ⟨rfl, h1, h2, ⟨rfl, _⟩ | ⟨b, off, rfl, hb, hc⟩⟩ := h
  · exact twin_nil a cap w
  · exact twin_some b off cap l w hm hb hc

/-- The twin: the same list, one more cell behind it. -/
def IsTwin (w : World) (g : Nat) (l : List UInt8) : Prop :=
  g < w.heap.size ∧ (∀ i (h : i < l.length), w.cell? ⟨g, i, none⟩ = some (.int .u8 l[i].toNat)) ∧ w.cell? ⟨g, l.length, none⟩ = some (.int .u8 77)

theorem IsTwin.of {w : World} {B e g n c : Nat} {l : List UInt8} (h : w.ownsRow B e 1 (.slice (some ⟨g, 0, none⟩) n c) n (bcells l ++ [.int .u8 77])) : IsTwin w g l := by
  have h1 : w.cell? ⟨g, l.length, none⟩ = some (.int .u8 77) := cells_of_owns h _ _ (by simp [bcells])
  refine ⟨(h.lt g rfl).2, fun i hi => cells_of_owns h _ _ ?_, h1⟩
  rw [List.getElem?_append_left (by simpa [bcells] using hi)]
  simp [bcells, hi]

theorem IsTwin.isB {w : World} {g : Nat} {l : List UInt8} (h : IsTwin w g l) (hm : l.length < maxLen) : IsB w (some ⟨g, 0, none⟩) l.length (l.length + 1) l :=
  ⟨rfl, by omega, by omega, .inr ⟨g, 0, rfl, h.1, by simpa using h.2.1⟩⟩

theorem IsTwin.below {w w' : World} {g : Nat} {l : List UInt8} (h : IsTwin w g l) (hb : Below w.heap.size w w') : IsTwin w' g l :=
  ⟨Nat.lt_of_lt_of_le h.1 hb.size, fun i hi => (hb.cell (p := ⟨g, i, none⟩) h.1).trans (h.2.1 i hi), (hb.cell (p := ⟨g, _, none⟩) h.1).trans h.2.2⟩

end Go.Proofs.YthadgnaaipdpaaaGreatDoor
