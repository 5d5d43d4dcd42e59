/- A book is told a list of bytes; conditions: those typed. -/
import Derived.Test.YtppmpgkkegldnaaDoorBook
import Derived.Deep.RegionLaw
namespace Go.Proofs.YtppmpgkkegldnaaDoor
open Go.RowKit
set_option linter.unusedVariables false
set_option linter.unusedSimpArgs false
set_option maxRecDepth 100000

/-- The book's own blocks. -/
def BkS (w : World) (B k : Nat) : Prop := B ≤ k ∧ ∃ cur t fz, w.heap[k]? = some (.cells cur t fz) ∧ (t = 68 ∨ t = 41)

theorem At.row3 (w : World) (u v x : Value) (e : TypeId) : At (w.alloc (.cells #[u, v, x] e)) (some ⟨w.heap.size, 0, none⟩) [u, v, x] := At.of_cells fun j hj => by
  rw [cell_of_block (heap_new w _), Nat.zero_add]
  simp at hj
  match j, hj with
  | 0, _ => rfl
  | 1, _ => rfl
  | 2, _ => rfl
theorem one3 (a : Option Addr) (n c : Nat) (x : Int) : ∀ u ∈ [Value.slice a n c, .slice none 0 0, .int .i64 x], u.oneCell' = true := by intro v hv; simp at hv; rcases hv with rfl | rfl | rfl <;> rfl

theorem grown_touch {w u w' : World} {row : Option Nat} (hb : Below w.heap.size w u) (hg : u.grownBy w' row) : Touch (fun k => row = some k) w w' :=
  (Touch.of_below (S := fun k => row = some k) hb).grown hg (fun k hk => .inl hk)
theorem book_cell1 {w : World} {bk N : Nat} {bs : Value} (h : w.heap[bk]? = some (.cells (bookC N bs) 41 (0, 0))) : w.cell? ⟨bk, 1, none⟩ = some bs := by rw [cell_of_block h]; rfl
theorem book_frozen {w : World} {bk i : Nat} {C : Array Value} {t : TypeId} (h : w.heap[bk]? = some (.cells C t (0, 0))) : w.frozen? ⟨bk, i, none⟩ = false := by simp [World.frozen?, h]

theorem keep_end {w w1 w8 : World} {B bk N : Nat} {bo b8 : Option Addr} {bc c8 : Nat} {H : List Hl} {x : Hd} (h : Bk w B bk N (.slice bo H.length bc) H) (hx : HOk w B x) (hap : ∀ i (hi : i < H.length), ∀ g, H[i].l.a = some ⟨g, 0, none⟩ → x.a ≠ some ⟨g, 0, none⟩) (hN : N < 1000000) (hH : H.length < 1000000)
    (ht1 : Touch (fun k => k = bk) w w1) (ht8 : Touch (fun k => (Value.slice bo H.length bc).ownBlock = some k) w1 w8) (hb8 : w8.heap[bk]? = some (.cells (bookC (N + 1) (.slice bo H.length bc)) 41 (0, 0)))
    (hown : w8.ownsRow B 68 3 (.slice b8 (H.length + 1) c8) (H.length + 1) (hcells H ++ [.slice x.a x.n x.c, .slice none 0 0, .int .i64 ((N : Int) + 1)])) :
    Touch (BkS w B) w (w8.setCell ⟨bk, 1, none⟩ (.slice b8 (H.length + 1) c8)) ∧ Bk (w8.setCell ⟨bk, 1, none⟩ (.slice b8 (H.length + 1) c8)) B bk (N + 1) (.slice b8 (H.length + 1) c8) (H ++ [⟨x, ⟨none, 0, 0⟩, N + 1⟩]) := by
  have hS : Other w (fun k => False) := fun _ h => h.elim
  have hbkS : BkS w B bk := ⟨h.le, _, _, _, h.book, .inr rfl⟩
  have hrowS : ∀ k, (Value.slice bo H.length bc).ownBlock = some k → BkS w B k := fun k hk => by
    obtain ⟨cur, hc⟩ := owns_block h.row hk
    exact ⟨(h.row.lt k hk).1, cur, _, _, hc, .inl rfl⟩
  have hT : Touch (BkS w B) w (w8.setCell ⟨bk, 1, none⟩ (.slice b8 (H.length + 1) c8)) :=
    ((ht1.weaken (fun k _ hk => by rw [hk]; exact hbkS)).trans (ht8.weaken (fun k _ hk => hrowS k hk))).setCell _ _ (.inl hbkS)
  have hlists : ∀ {y : Hd}, HOk w B y → HOk (w8.setCell ⟨bk, 1, none⟩ (.slice b8 (H.length + 1) c8)) B y := fun hy => hy.touch hT (fun g hg e => by
    obtain ⟨cur, h1, _⟩ := hy
    rcases h1 with ⟨h1, _⟩ | ⟨g', h1, hc, _⟩
    · rw [h1] at hg; cases hg
    · rw [h1] at hg; cases hg
      obtain ⟨_, cur', t, fz, hc', ht⟩ := e
      rw [hc] at hc'
      cases hc'
      revert ht; decide)
  refine ⟨hT, ⟨h.le, ?_, ?_, fun i hi => ?_, fun i j hi hj hij g hg => ?_, fun i hi => ?_, by simp; omega⟩⟩
  · rw [heap_setCell_same _ _ _ _ _ _ hb8]; rfl
  · rw [List.length_append, List.length_singleton, hcells_snoc]
    have ht9 : Touch (fun k => k = bk) w8 (w8.setCell ⟨bk, 1, none⟩ (.slice b8 (H.length + 1) c8)) := (Touch.refl _ _).setCell _ _ (.inl rfl)
    refine owns_touch ?_ ht9 (fun k hk e => ?_)
    · have e1 : (Hl.cells ⟨x, ⟨none, 0, 0⟩, N + 1⟩) = [.slice x.a x.n x.c, .slice none 0 0, .int .i64 ((N : Int) + 1)] := by simp [Hl.cells, Hd.val]
      rw [e1]; exact hown
    · obtain ⟨cur, hc⟩ := owns_block hown hk
      rw [e, hb8] at hc
      have := (Obj.cells.inj (Option.some.inj hc)).2.1
      revert this; decide
  · by_cases hil : i < H.length
    · rw [List.getElem_append_left hil]; exact hlists (h.ok i hil)
    · have : i = H.length := by simp at hi; omega
      subst this
      rw [List.getElem_append_right (Nat.le_refl _)]
      simp; exact hlists hx
  · by_cases hil : i < H.length
    · rw [List.getElem_append_left hil] at hg
      by_cases hjl : j < H.length
      · rw [List.getElem_append_left hjl]; exact h.apart i j hil hjl hij g hg
      · have : j = H.length := by simp at hj; omega
        subst this
        rw [List.getElem_append_right (Nat.le_refl _)]
        simp; exact hap i hil g hg
    · have : i = H.length := by simp at hi; omega
      subst this
      rw [List.getElem_append_right (Nat.le_refl _)] at hg
      simp at hg
      have hjl : j < H.length := by simp at hj; omega
      rw [List.getElem_append_left hjl]
      intro hg2
      exact hap j hjl g hg2 hg
  · by_cases hil : i < H.length
    · rw [List.getElem_append_left hil]; exact h.num i hil
    · have : i = H.length := by simp at hi; omega
      subst this
      rw [List.getElem_append_right (Nat.le_refl _)]
      simp; omega

set_option maxHeartbeats 4000000 in
theorem keepByte_any (w : World) (B bk N : Nat) (bs : Value) (H : List Hl) (h : Bk w B bk N bs H) (x : Hd) (hx : HOk w B x) (hap : ∀ i (hi : i < H.length), ∀ g, H[i].l.a = some ⟨g, 0, none⟩ → x.a ≠ some ⟨g, 0, none⟩) (hN : N < 1000000) (hH : H.length < 1000000) :
    Calls Tryd.prog 28 #[.pointer (some ⟨bk, 0, none⟩), x.val] w fun e w' => e = .returned (.tuple #[]) ∧ Touch (BkS w B) w w' ∧ ∃ bs', Bk w' B bk (N + 1) bs' (H ++ [⟨x, ⟨none, 0, 0⟩, N + 1⟩]) := by
  obtain ⟨bo, bc, rfl⟩ := owns_shape h.row
  unfold Hd.val
  have f0 : w.cell? ⟨bk, 0, none⟩ = some (.int .i64 N) := by rw [cell_of_block h.book]; rfl
  have ff : w.frozen? ⟨bk, 0, none⟩ = false := by simp [World.frozen?, h.book]
  have ht1 : Touch (fun k => k = bk) w (w.setCell ⟨bk, 0, none⟩ (.int .i64 ((N : Int) + 1))) := (Touch.refl _ _).setCell _ _ (.inl rfl)
  have hb1 : (w.setCell ⟨bk, 0, none⟩ (.int .i64 ((N : Int) + 1))).heap[bk]? = some (.cells (bookC (N + 1) (.slice bo H.length bc)) 41 (0, 0)) := by rw [heap_setCell_same _ _ _ _ _ _ h.book]; rfl
  have hrow1 : (w.setCell ⟨bk, 0, none⟩ (.int .i64 ((N : Int) + 1))).ownsRow B 68 3 (.slice bo H.length bc) H.length (hcells H) := owns_touch h.row ht1 (fun k hk e => by
    obtain ⟨cur, hc⟩ := owns_block h.row hk
    rw [e, h.book] at hc
    have := (Obj.cells.inj (Option.some.inj hc)).2.1
    revert this; decide)
  have HH := Lib.hid h
  go_enter Tryd.func28, Tryd.ntmps28
  go_wp2
  generalize w.setCell ⟨bk, 0, none⟩ (.int .i64 ((N : Int) + 1)) = w1 at ht1 hb1 hrow1 ⊢
  have g0 : w1.cell? ⟨bk, 0, none⟩ = some (.int .i64 ((N : Int) + 1)) := by rw [cell_of_block hb1]; simp [bookC]
  have g1 : w1.cell? ⟨bk, 1, none⟩ = some (.slice bo H.length bc) := by rw [cell_of_block hb1]; rfl
  have k0 : (w1.alloc (.cells #[.slice x.a x.n x.c, .slice none 0 0, .int .i64 ((N : Int) + 1)] 68)).drew.cell? ⟨bk, 0, none⟩ = some (.int .i64 ((N : Int) + 1)) := cell_later (((Below.refl _ _).alloc (Nat.le_refl _) _).drew) g0
  have k1 : (w1.alloc (.cells #[.slice x.a x.n x.c, .slice none 0 0, .int .i64 ((N : Int) + 1)] 68)).drew.cell? ⟨bk, 1, none⟩ = some (.slice bo H.length bc) := cell_later (((Below.refl _ _).alloc (Nat.le_refl _) _).drew) g1
  have HR := Lib.hid hrow1
  have HB := Lib.hid hb1
  have HT := Lib.hid ht1
  have hfew := Lib.hid h.few
  have hle := Lib.hid h.le
  have hsz : Hid (B ≤ w1.heap.size) := Lib.hid (Nat.le_trans h.le (Nat.le_of_lt (lt_of_heap hb1)))
  have hnb : Hid (∀ k, (Value.slice bo H.length bc).ownBlock = some k → ¬ (bk = k)) := Lib.hid (fun k hk e => by
    obtain ⟨cur, hc⟩ := owns_block HR.out hk
    rw [← e, HB.out] at hc
    have := (Obj.cells.inj (Option.some.inj hc)).2.1
    revert this; decide)
  clear f0 ff ht1 hb1 hrow1 h
  go_region_law (first
    | (refine step_append_any rowHl rfl (.tmp 15) (.tmp 22) (by rfl) B (.slice bo H.length bc) H.length (hcells H) (by simp [Act.eval, Act.put]) (owns_below HR.out (by first | exact ((Below.refl _ _).alloc (Nat.le_refl _) _).drew | exact ((Below.refl _ _).drew).alloc (by simp) _ | exact ((Below.refl _ _).alloc (Nat.le_refl _) _))) (some ⟨w1.heap.size, 0, none⟩) 1 1 [.slice x.a x.n x.c, .slice none 0 0, .int .i64 ((N : Int) + 1)] (by simp [Act.eval, Act.put]) rfl (At.row3 _ _ _ _ _) (one3 _ _ _ _) (by unfold maxLen; omega) (by omega) (Nat.le_trans hsz.out (by simp)) ?_; intro b8 c8 w8 hown8 hg8 hat8; have hT8 : Touch (fun k => (Value.slice bo H.length bc).ownBlock = some k) w1 w8 := grown_touch (by first | exact ((Below.refl _ _).alloc (Nat.le_refl _) _).drew | exact ((Below.refl _ _).drew).alloc (by simp) _ | exact ((Below.refl _ _).alloc (Nat.le_refl _) _)) hg8; have hb8 := hT8.heap HB.out (fun e => hnb.out bk e rfl); have q1 : w8.cell? ⟨bk, 1, none⟩ = some (.slice bo H.length bc) := book_cell1 hb8; have qf : w8.frozen? ⟨bk, 1, none⟩ = false := book_frozen hb8)
    | fail)
  all_goals
    have E := keep_end HH.out hx hap hN hH HT.out hT8 hb8 hown8
    clear hg8 hat8 hown8 hT8 hb8 q1 qf
    go_end0
    exact ⟨rfl, E.1, _, E.2⟩

end Go.Proofs.YtppmpgkkegldnaaDoor
