/- A book is told a list of the kind ByteList; conditions: those typed. (Written by gen_book.py.) -/
import Derived.Test.YthadgnaaipdpaaaGreatDoorKBk
namespace Go.Proofs.YthadgnaaipdpaaaGreatDoor
open Go.RowKit
set_option linter.unusedVariables false
set_option linter.unusedSimpArgs false
set_option maxRecDepth 100000

set_option maxHeartbeats 4000000 in
theorem keepByteList_any (w : World) (B bk N : Nat) (bs : Kd → Value) (H : Kd → List Hl) (h : Bk w B bk N bs H) (x : Hd) (hx : HOk .bl w B x) (hap : ∀ i (hi : i < (H .bl).length), ∀ g, (H .bl)[i].l.a = some ⟨g, 0, none⟩ → x.a ≠ some ⟨g, 0, none⟩) (hN : N < 1000000) (hH : (H .bl).length < 1000000) :
    Calls Tryz.prog 70 #[.pointer (some ⟨bk, 0, none⟩), x.val] w fun e w' => e = .returned (.tuple #[]) ∧ Touch (BkS w B) w w' ∧ ∃ bs', Bk w' B bk (N + 1) bs' (updK H .bl (H .bl ++ [⟨x, ⟨none, 0, 0⟩, N + 1⟩])) := by
  obtain ⟨bo, bc, hbs⟩ := owns_shape (h.part .bl).row
  have hP := h.part .bl
  rw [hbs] at hP
  have hb0 := h.cell .bl
  rw [hbs] at hb0
  have HBS := Lib.hid hbs
  obtain ⟨L, hL⟩ : ∃ L, L = H .bl := ⟨_, rfl⟩
  have HL := Lib.hid hL
  rw [← hL] at hP hb0 hH
  clear hL hbs
  unfold Hd.val
  have f0 : w.cell? ⟨bk, 0, none⟩ = some (.int .i64 N) := by rw [cell_of_block h.book]; rfl
  have ff : w.frozen? ⟨bk, 0, none⟩ = false := h.frozen 0
  have ht1 : Touch (fun k => k = bk) w (w.setCell ⟨bk, 0, none⟩ (.int .i64 ((N : Int) + 1))) := (Touch.refl _ _).setCell _ _ (.inl rfl)
  have hb1 : (w.setCell ⟨bk, 0, none⟩ (.int .i64 ((N : Int) + 1))).heap[bk]? = some (.cells (bookC (N + 1) bs) 54 (0, 0)) := by rw [heap_setCell_same _ _ _ _ _ _ h.book]; rfl
  have hrow1 : (w.setCell ⟨bk, 0, none⟩ (.int .i64 ((N : Int) + 1))).ownsRow B 113 3 (.slice bo L.length bc) L.length (hcells L) := owns_touch hP.row ht1 (fun k hk e => by
    obtain ⟨cur, hc⟩ := owns_block hP.row hk
    exact ty_ne hc h.book (by decide) e)
  have HH := Lib.hid h
  go_enter Tryz.func70, Tryz.ntmps70
  go_wp2
  generalize w.setCell ⟨bk, 0, none⟩ (.int .i64 ((N : Int) + 1)) = w1 at ht1 hb1 hrow1 ⊢
  have hbx : bs .bl = .slice bo L.length bc := by rw [HBS.out, ← HL.out]
  have hbook : ∀ (W : World), W.heap[bk]? = some (.cells (bookC (N + 1) bs) 54 (0, 0)) → W.cell? ⟨bk, 5, none⟩ = some (.slice bo L.length bc) := fun W h => by rw [cell_of_block h, ← hbx]; rfl
  have HBO := Lib.hid hbook
  clear hbook hbx
  have g0 : w1.cell? ⟨bk, 0, none⟩ = some (.int .i64 ((N : Int) + 1)) := by rw [cell_of_block hb1]; simp [bookC]
  have g1 : w1.cell? ⟨bk, 5, none⟩ = some (.slice bo L.length bc) := HBO.out w1 hb1
  have k0 : (w1.alloc (.cells #[.slice x.a x.n x.c, .slice none 0 0, .int .i64 ((N : Int) + 1)] 113)).drew.cell? ⟨bk, 0, none⟩ = some (.int .i64 ((N : Int) + 1)) := cell_later (((Below.refl _ _).alloc (Nat.le_refl _) _).drew) g0
  have k1 : (w1.alloc (.cells #[.slice x.a x.n x.c, .slice none 0 0, .int .i64 ((N : Int) + 1)] 113)).drew.cell? ⟨bk, 5, none⟩ = some (.slice bo L.length bc) := cell_later (((Below.refl _ _).alloc (Nat.le_refl _) _).drew) g1
  have HR := Lib.hid hrow1
  have HB := Lib.hid hb1
  have HT := Lib.hid ht1
  have hfew := Lib.hid hP.few
  have hle := Lib.hid h.le
  have hsz : Hid (B ≤ w1.heap.size) := Lib.hid (Nat.le_trans h.le (Nat.le_of_lt (lt_of_heap hb1)))
  have hnb : Hid (∀ k, (Value.slice bo L.length bc).ownBlock = some k → ¬ (bk = k)) := Lib.hid (fun k hk e => by
    obtain ⟨cur, hc⟩ := owns_block HR.out hk
    exact ty_ne hc HB.out (by decide) e.symm)
  clear f0 ff ht1 hb1 hrow1 h hP hb0
  go_region_law (first
    | (refine step_append_any (rowH .bl) rfl (.tmp 15) (.tmp 22) (by rfl) B (.slice bo L.length bc) L.length (hcells L) (by simp [Act.eval, Act.put]) (owns_below HR.out (by first | exact ((Below.refl _ _).alloc (Nat.le_refl _) _).drew | exact ((Below.refl _ _).drew).alloc (by simp) _ | exact ((Below.refl _ _).alloc (Nat.le_refl _) _))) (some ⟨w1.heap.size, 0, none⟩) 1 1 [.slice x.a x.n x.c, .slice none 0 0, .int .i64 ((N : Int) + 1)] (by simp [Act.eval, Act.put]) rfl (At.row3 _ _ _ _ _) (one3 _ _ _ _) (by unfold maxLen; omega) (by omega) (Nat.le_trans hsz.out (by simp)) ?_; intro b8 c8 w8 hown8 hg8 hat8; have hT8 : Touch (fun k => (Value.slice bo L.length bc).ownBlock = some k) w1 w8 := grown_touch (by first | exact ((Below.refl _ _).alloc (Nat.le_refl _) _).drew | exact ((Below.refl _ _).drew).alloc (by simp) _ | exact ((Below.refl _ _).alloc (Nat.le_refl _) _)) hg8; have hb8 := hT8.heap HB.out (fun e => hnb.out bk e rfl); have q1 : w8.cell? ⟨bk, 5, none⟩ = some (.slice bo L.length bc) := HBO.out w8 hb8; have qf : w8.frozen? ⟨bk, 5, none⟩ = false := blk_frozen hb8)
    | fail)
  all_goals
    have E : Touch (BkS w B) w (w8.setCell ⟨bk, 5, none⟩ (.slice b8 (L.length + 1) c8)) ∧ Bk (w8.setCell ⟨bk, 5, none⟩ (.slice b8 (L.length + 1) c8)) B bk (N + 1) (updK bs .bl (.slice b8 (L.length + 1) c8)) (updK H .bl (H .bl ++ [⟨x, ⟨none, 0, 0⟩, N + 1⟩])) := by
      have e := HL.out
      subst e
      exact bk_keep_end HH.out HBS.out hx hap hN hH HT.out hT8 hb8 hown8
    clear hg8 hat8 hown8 hT8 hb8 q1 qf
    go_end0
    exact ⟨rfl, E.1, _, E.2⟩

end Go.Proofs.YthadgnaaipdpaaaGreatDoor
