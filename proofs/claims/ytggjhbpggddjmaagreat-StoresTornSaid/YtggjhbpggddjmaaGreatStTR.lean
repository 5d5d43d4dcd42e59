/- The book's twin of a record; conditions: those typed. -/
import Derived.Test.YtggjhbpggddjmaaGreatGStTw
import Derived.Test.YtggjhbpggddjmaaGreatGInts
import Derived.Deep.RegionLaw
namespace Go.Proofs.YtggjhbpggddjmaaGreat
open Go.RowKit
set_option linter.unusedVariables false
set_option linter.unusedSimpArgs false

theorem set3_same {w : World} {b : Nat} {u0 u1 u2 v0 v1 v2 : Value} {T : TypeId} (h : w.heap[b]? = some (.cells #[u0, u1, u2] T (0, 0))) :
    (((w.setCell ⟨b, 0, none⟩ v0).setCell ⟨b, 1, none⟩ v1).setCell ⟨b, 2, none⟩ v2).heap[b]? = some (.cells #[v0, v1, v2] T (0, 0)) ∧ Touch (fun k => k = b) w (((w.setCell ⟨b, 0, none⟩ v0).setCell ⟨b, 1, none⟩ v1).setCell ⟨b, 2, none⟩ v2) := by
  have h0 : (w.setCell ⟨b, 0, none⟩ v0).heap[b]? = some (.cells #[v0, u1, u2] T (0, 0)) := by rw [heap_setCell_same _ b 0 _ _ _ h]; rfl
  have h1 : ((w.setCell ⟨b, 0, none⟩ v0).setCell ⟨b, 1, none⟩ v1).heap[b]? = some (.cells #[v0, v1, u2] T (0, 0)) := by rw [heap_setCell_same _ b 1 _ _ _ h0]; rfl
  exact ⟨by rw [heap_setCell_same _ b 2 _ _ _ h1]; rfl, ((Touch.setCell (Touch.refl (fun k => k = b) w) ⟨b, 0, none⟩ v0 (.inl rfl)).setCell ⟨b, 1, none⟩ v1 (.inl rfl)).setCell ⟨b, 2, none⟩ v2 (.inl rfl)⟩

set_option maxRecDepth 100000 in
set_option maxHeartbeats 8000000 in
theorem twinR_any (sq : Nat) (st : Bool) (a : Option Addr) (n cap : Nat) (l : List Int) (w : World) (hI : IsI w a n cap l) (hl : l.length ≤ 1000000) :
    Calls Tryz.prog 15 #[.agg #[.int .u32 sq, .bool st, .slice a n cap]] w fun e w' => ∃ g, e = .returned (.agg #[.int .u32 sq, .bool st, .slice (some ⟨g, 0, none⟩) n (n + 1)]) ∧ Below w.heap.size w w' ∧ IsI w' (some ⟨g, 0, none⟩) n (n + 1) l ∧ w.heap.size ≤ g := by
  obtain rfl := hI.1
  obtain ⟨hb0, m0, m1⟩ := alloc2_facts w (.cells #[.int .u32 sq, .bool st, .slice a l.length cap] 41 (0, 0)) (.cells #[.int .u32 0, .bool false, .slice none 0 0] 41 (0, 0))
  have HI := Lib.hid (hI.below hb0)
  clear hI
  go_enter Tryz.func15, Tryz.ntmps15
  go_wp2_with fail
  generalize ((w.alloc (.cells #[.int .u32 sq, .bool st, .slice a l.length cap] 41)).alloc (.cells #[.int .u32 0, .bool false, .slice none 0 0] 41)) = W at hb0 m0 m1 HI ⊢
  have c0 : W.cell? ⟨w.heap.size, 0, none⟩ = some (.int .u32 sq) := by rw [cell_of_block m0]; rfl
  have c1 : W.cell? ⟨w.heap.size, 1, none⟩ = some (.bool st) := by rw [cell_of_block m0]; rfl
  have c2 : W.cell? ⟨w.heap.size, 2, none⟩ = some (.slice a l.length cap) := by rw [cell_of_block m0]; rfl
  have HB := Lib.hid hb0
  have M1 := Lib.hid m1
  have hd0 := (Below.refl W.heap.size W).drew
  have k0 : W.drew.cell? ⟨w.heap.size, 0, none⟩ = some (.int .u32 sq) := c0
  have k1 : W.drew.cell? ⟨w.heap.size, 1, none⟩ = some (.bool st) := c1
  have k2 : W.drew.cell? ⟨w.heap.size, 2, none⟩ = some (.slice a l.length cap) := c2
  clear hb0 m0 m1
  go_region_law (first
    | (go_simp; go_at_call 40; refine (twinI_any a l.length cap l W.drew (by omega) (HI.out.below hd0)).mono ?_; rintro e w1 ⟨rfl, hb1, ho1⟩
       have hB1 : Below W.heap.size W w1 := hd0.trans (hb1.mono hd0.size)
       have x0 : w1.cell? ⟨w.heap.size, 0, none⟩ = some (.int .u32 sq) := cell_later hB1 c0
       have x1 : w1.cell? ⟨w.heap.size, 1, none⟩ = some (.bool st) := cell_later hB1 c1
       have x2 : w1.cell? ⟨w.heap.size, 2, none⟩ = some (.slice a l.length cap) := cell_later hB1 c2
       have vm := below_heap hB1 M1.out (lt_of_heap M1.out)
       have y0 : w1.cell? ⟨w.heap.size + 1, 0, none⟩ = some (.int .u32 0) := (by rw [cell_of_block vm]; rfl)
       have y1 : w1.cell? ⟨w.heap.size + 1, 1, none⟩ = some (.bool false) := (by rw [cell_of_block vm]; rfl)
       have y2 : w1.cell? ⟨w.heap.size + 1, 2, none⟩ = some (.slice none 0 0) := (by rw [cell_of_block vm]; rfl)
       have yf0 : w1.frozen? ⟨w.heap.size + 1, 0, none⟩ = false := blk_free vm
       have yf1 : w1.frozen? ⟨w.heap.size + 1, 1, none⟩ = false := blk_free vm
       have yf2 : w1.frozen? ⟨w.heap.size + 1, 2, none⟩ = false := blk_free vm
       clear hb1)
    | fail)
  all_goals
    obtain ⟨s1, s2⟩ := set3_same (v0 := .int .u32 (sq : Int)) (v1 := .bool st) (v2 := .slice (some ⟨W.heap.size, 0, none⟩) l.length (l.length + 1)) vm
    have ht : IsTwinI w1 W.heap.size l := IsTwinI.of ho1
    have hWs : w.heap.size + 1 < W.heap.size := lt_of_heap M1.out
    have hi : IsI w1 (some ⟨W.heap.size, 0, none⟩) l.length (l.length + 1) l := ⟨rfl, by omega, by unfold maxLen; omega, .inr ⟨W.heap.size, 0, rfl, ht.1, fun i hi => by rw [Nat.zero_add]; exact ht.2.1 i hi⟩⟩
    have HE := Lib.hid (And.intro (HB.out.trans ((hB1.mono HB.out.size).trans (s2.below (Nat.le_trans HB.out.size hB1.size) (fun k hk e => by omega)))) (hi.touch s2 (fun b off hb _ => by cases hb; omega)))
    clear hB1 x0 x1 x2 y0 y1 y2 yf0 yf1 yf2 ho1 hi ht hd0 k0 k1 k2 c0 c1 c2
    generalize (((w1.setCell ⟨w.heap.size + 1, 0, none⟩ (.int .u32 (sq : Int))).setCell ⟨w.heap.size + 1, 1, none⟩ (.bool st)).setCell ⟨w.heap.size + 1, 2, none⟩ (.slice (some ⟨W.heap.size, 0, none⟩) l.length (l.length + 1))) = w2 at s1 s2 HE ⊢
    have q0 : w2.cell? ⟨w.heap.size + 1, 0, none⟩ = some (.int .u32 (sq : Int)) := by rw [cell_of_block s1]; rfl
    have q1 : w2.cell? ⟨w.heap.size + 1, 1, none⟩ = some (.bool st) := by rw [cell_of_block s1]; rfl
    have q2 : w2.cell? ⟨w.heap.size + 1, 2, none⟩ = some (.slice (some ⟨W.heap.size, 0, none⟩) l.length (l.length + 1)) := by rw [cell_of_block s1]; rfl
    clear s2 vm
    have s1' := s1
    clear s1
    go_wp2_with fail
    refine bodyPost_ret (results_cell rfl _ _ (w.heap.size + 1) 0 rfl [.int .u32 (sq : Int), .bool st, .slice (some ⟨W.heap.size, 0, none⟩) l.length (l.length + 1)] _ (rangeAt_row s1') Tryz.underlying41 rfl info_rec) rfl ?_
    exact ⟨W.heap.size, rfl, HE.out.1, HE.out.2, by omega⟩

end Go.Proofs.YtggjhbpggddjmaaGreat
