/- The document's disk: New; conditions: those typed. -/
import Derived.Test.YtppmpgkkegldnaaDoorRefW
namespace Go.Proofs.YtppmpgkkegldnaaDoor
open Go.RowKit
set_option linter.unusedVariables false
set_option linter.unusedSimpArgs false
set_option maxRecDepth 100000

theorem make64 (w : World) : (Instr.makeSlice 42 (.int .i64 64) (.int .i64 64)).run Tryd.prog w = .ok (.slice (some ⟨w.heap.size, 0, none⟩) 64 64) (w.alloc (.cells z64.toArray 5)) := by
  obtain ⟨i0, hi, hz0, hz1, hz2⟩ := info_parts infoU8
  have h := run_make (P := Tryd.prog) w 42 5 i0 _ Tryd.underlying42 hi hz0 .i64 .i64 64 64 (by decide) (by decide) (by rw [hz2]; decide) (by decide)
  rw [hz1] at h
  have e : (madeCells (Value.int .u8 0).cells (64 * 1)) = z64.toArray := by rw [← z64_made]
  rw [← e]
  exact h

theorem rnew_bad (n : Int) (w : World) (hn : n < 1 ∨ 1024 < n) :
    Calls Tryd.prog 6 #[.int .i64 n] w fun e w' => e = .returned (.tuple #[.pointer none, .int .i64 1]) ∧ w = w' := by
  rcases hn with hn | hn
  · go_enter Tryd.func6, Tryd.ntmps6
    go_wp2
    go_ret2
    exact ⟨rfl, rfl⟩
  · have h1 : ¬ n < 1 := by omega
    go_enter Tryd.func6, Tryd.ntmps6
    go_wp2
    go_ret2
    exact ⟨rfl, rfl⟩

/-- The disk under way: k sectors are laid. -/
def NewSt (w0 w : World) (rd k : Nat) (b : Option Addr) (c : Nat) : Prop :=
  Below w0.heap.size w0 w ∧ w0.heap.size ≤ rd ∧ w.heap[rd]? = some (.cells #[.slice b k c, .int .i64 (-1), .bool false, .int .i64 0] 62 (0, 0)) ∧
    ∃ gs : List Nat, gs.length = k ∧ w.ownsRow w0.heap.size 42 1 (.slice b k c) k (gs.map sl64) ∧ (∀ i (h : i < gs.length), RowB w gs[i] zsec ∧ w0.heap.size ≤ gs[i]) ∧ ∀ i j (hi : i < gs.length) (hj : j < gs.length), i ≠ j → gs[i] ≠ gs[j]

theorem NewSt.row {w0 w : World} {rd k : Nat} {b : Option Addr} {c : Nat} (h : NewSt w0 w rd k b c) : ∃ gs : List Nat, w.ownsRow w0.heap.size 42 1 (.slice b k c) k (gs.map sl64) ∧ (∀ x, (Value.slice b k c).ownBlock = some x → x ≠ rd ∧ x < w.heap.size) := by
  obtain ⟨_, _, h3, gs, _, h5, _⟩ := h
  refine ⟨gs, h5, fun x hx => ?_⟩
  obtain ⟨cur, hc⟩ := owns_block h5 hx
  refine ⟨fun e => ?_, lt_of_heap hc⟩
  rw [e, h3] at hc
  have := (Obj.cells.inj (Option.some.inj hc)).2.1
  revert this; decide
theorem NewSt.step {w0 w wa w8 : World} {rd k : Nat} {b b8 : Option Addr} {c c8 g : Nat} (h : NewSt w0 w rd k b c) (hba : Below w.heap.size w wa) (hG : g = w.heap.size) (hga : wa.heap[g]? = some (.cells z64.toArray 5 (0, 0))) (gs' : List Nat) (he : w.ownsRow w0.heap.size 42 1 (.slice b k c) k (gs'.map sl64))
    (hown : w8.ownsRow w0.heap.size 42 1 (.slice b8 (k + 1) c8) (k + 1) (gs'.map sl64 ++ [sl64 g])) (ht8 : Touch (fun x => (Value.slice b k c).ownBlock = some x) wa w8) : NewSt w0 (w8.setCell ⟨rd, 0, none⟩ (.slice b8 (k + 1) c8)) rd (k + 1) b8 c8 := by
  obtain ⟨_, _, hrow⟩ := h.row
  obtain ⟨h1, h2, h3, gs, h4, h5, h6, h7⟩ := h
  have hee : gs'.map sl64 = gs.map sl64 := by
    rcases he.2 with ⟨e1, e2⟩ | ⟨x, cap, cur, e1, _, e3, _, _, e4, e5⟩
    · have l1 := he.1
      have l2 := h5.1
      simp at l1 l2
      have : gs' = [] := List.eq_nil_of_length_eq_zero (by omega)
      have : gs = [] := List.eq_nil_of_length_eq_zero (by omega)
      subst_vars; rfl
    · rcases h5.2 with ⟨f1, _⟩ | ⟨x', cap', cur', f1, _, f3, _, _, f4, f5⟩
      · rw [e1] at f1; cases f1
      · rw [e1] at f1; cases f1
        rw [e3] at f3
        have := (Obj.cells.inj (Option.some.inj f3)).1
        subst this
        rw [← e5, ← f5]
  rw [hee] at hown
  have hsub : ∀ x, (Value.slice b k c).ownBlock = some x → x ≠ rd ∧ x < w.heap.size := hrow
  have hT : Touch (fun x => (Value.slice b k c).ownBlock = some x) w w8 := (Touch.of_below hba).trans ht8
  have hrd8 : w8.heap[rd]? = some (.cells #[.slice b k c, .int .i64 (-1), .bool false, .int .i64 0] 62 (0, 0)) := hT.heap h3 (fun e => (hsub rd e).1 rfl)
  have hrows : ∀ {x : Nat} {y : List UInt8}, RowB w x y → RowB w8 x y := fun {x y} hx => hT.heap hx (fun e => by
    obtain ⟨cur, hc⟩ := owns_block h5 e
    unfold RowB at hx
    rw [hx] at hc
    have := (Obj.cells.inj (Option.some.inj hc)).2.1
    revert this; decide)
  have hg8 : RowB w8 g zsec := ht8.heap hga (fun e => by have := (hsub g e).2; omega)
  have htc : Touch (fun x => x = rd) w8 (w8.setCell ⟨rd, 0, none⟩ (.slice b8 (k + 1) c8)) := (Touch.refl _ _).setCell _ _ (.inl rfl)
  have hrowc : ∀ {x : Nat} {y : List UInt8}, RowB w8 x y → RowB (w8.setCell ⟨rd, 0, none⟩ (.slice b8 (k + 1) c8)) x y := fun {x y} hx => htc.heap hx (fun e => by
    unfold RowB at hx
    rw [e, hrd8] at hx
    have := (Obj.cells.inj (Option.some.inj hx)).2.1
    revert this; decide)
  have hlt : ∀ i (hi : i < gs.length), gs[i] < w.heap.size := fun i hi => lt_of_heap (h6 i hi).1
  refine ⟨(h1.trans (hT.below h1.size (fun x hx e => by
      have := h5.lt x e
      omega))).setCell h2 _, h2, ?_, gs ++ [g], by simp [h4], ?_, fun i hi => ?_, fun i j hi hj hij => ?_⟩
  · rw [heap_setCell_same _ _ _ _ _ _ hrd8]; rfl
  · rw [List.map_append, List.map_singleton]
    refine owns_touch hown htc (fun x hx e => ?_)
    obtain ⟨cur, hc⟩ := owns_block hown hx
    rw [e, hrd8] at hc
    have := (Obj.cells.inj (Option.some.inj hc)).2.1
    revert this; decide
  · by_cases hil : i < gs.length
    · rw [List.getElem_append_left hil]
      exact ⟨hrowc (hrows (h6 i hil).1), (h6 i hil).2⟩
    · have : i = gs.length := by simp at hi; omega
      subst this
      simp only [List.getElem_append_right (Nat.le_refl _), Nat.sub_self, List.getElem_cons_zero]
      exact ⟨hrowc hg8, by rw [hG]; exact h1.size⟩
  · by_cases hil : i < gs.length
    · rw [List.getElem_append_left hil]
      by_cases hjl : j < gs.length
      · rw [List.getElem_append_left hjl]; exact h7 i j hil hjl hij
      · have : j = gs.length := by simp at hj; omega
        subst this
        simp only [List.getElem_append_right (Nat.le_refl _), Nat.sub_self, List.getElem_cons_zero]
        have := hlt i hil
        omega
    · have : i = gs.length := by simp at hi; omega
      subst this
      have hjl : j < gs.length := by simp at hj; omega
      rw [List.getElem_append_left hjl]
      simp only [List.getElem_append_right (Nat.le_refl _), Nat.sub_self, List.getElem_cons_zero]
      have := hlt j hjl
      omega
theorem NewSt.done {w0 w : World} {rd k : Nat} {b : Option Addr} {c : Nat} (h : NewSt w0 w rd k b c) (h1 : 1 ≤ k) (h2 : k ≤ 1024) : ∃ rl, IsRef w w0.heap.size rd rl c ⟨List.replicate k zsec, -1, false, 0⟩ := by
  obtain ⟨_, h3, h4, gs, h5, h6, h7, h8⟩ := h
  rcases h6.2 with ⟨e1, e2⟩ | ⟨rl, cap, cur, e1, _⟩
  · omega
  · cases e1
    refine ⟨rl, h3, by simpa using h1, by simpa using h2, fun s hs => by rw [List.eq_of_mem_replicate hs]; exact zsec_length, by simpa using h4, gs, by simpa using h5, by simpa using h6, fun i hi hi' => ⟨by simpa using (h7 i hi).1, (h7 i hi).2⟩, h8⟩

/-- The worlds in which a new sector and the list of it lie, as the draws leave them. -/
def Pair (w W : World) (v : Value) : Prop :=
  W = (w.alloc (.cells z64.toArray 5)).alloc (.cells #[v] 42) ∨ W = ((w.alloc (.cells z64.toArray 5)).alloc (.cells #[v] 42)).drew ∨
  W = (w.alloc (.cells z64.toArray 5)).drew.alloc (.cells #[v] 42) ∨ W = (w.drew.alloc (.cells z64.toArray 5)).alloc (.cells #[v] 42)
theorem Pair.facts {w W : World} {v : Value} (h : Pair w W v) : Below w.heap.size w W ∧ W.heap[w.heap.size]? = some (.cells z64.toArray 5 (0, 0)) ∧ W.heap[w.heap.size + 1]? = some (.cells #[v] 42 (0, 0)) := by
  have hb := (((Below.refl w.heap.size w).alloc (Nat.le_refl _) (.cells z64.toArray 5)).alloc (by simp) (.cells #[v] 42))
  have h0 : ((w.alloc (.cells z64.toArray 5)).alloc (.cells #[v] 42)).heap[w.heap.size]? = some (.cells z64.toArray 5 (0, 0)) := below_heap (((Below.refl (w.heap.size + 1) (w.alloc (.cells z64.toArray 5))).alloc (by simp) _)) (heap_new _ _) (by omega)
  have h1 : ((w.alloc (.cells z64.toArray 5)).alloc (.cells #[v] 42)).heap[w.heap.size + 1]? = some (.cells #[v] 42 (0, 0)) := by
    have := heap_new (w.alloc (.cells z64.toArray 5)) (.cells #[v] 42 (0, 0))
    rwa [show (w.alloc (.cells z64.toArray 5)).heap.size = w.heap.size + 1 by simp] at this
  rcases h with rfl | rfl | rfl | rfl
  · exact ⟨hb, h0, h1⟩
  · exact ⟨hb.drew, h0, h1⟩
  · exact ⟨hb.drew, h0, h1⟩
  · exact ⟨hb.drew, h0, h1⟩
theorem at_pair (w W : World) (v : Value) (h : Pair w W v) : At W (some ⟨w.heap.size + 1, 0, none⟩) [v] := At.of_cells fun j hj => by
  have hj0 : j = 0 := by simpa using hj
  subst hj0
  rw [Nat.zero_add, cell_of_block h.facts.2.2]; rfl
theorem NewSt.step2 {w0 w w8 : World} {rd k : Nat} {b b8 : Option Addr} {c c8 : Nat} (h : NewSt w0 w rd k b c) (gs' : List Nat) (he : w.ownsRow w0.heap.size 42 1 (.slice b k c) k (gs'.map sl64)) (wa : World) (hp : Pair w wa (sl64 w.heap.size))
    (hown : w8.ownsRow w0.heap.size 42 1 (.slice b8 (k + 1) c8) (k + 1) (gs'.map sl64 ++ [sl64 w.heap.size])) (hg : wa.grownBy w8 (Value.slice b k c).ownBlock) :
    w8.heap[rd]? = some (.cells #[.slice b k c, .int .i64 (-1), .bool false, .int .i64 0] 62 (0, 0)) ∧ NewSt w0 (w8.setCell ⟨rd, 0, none⟩ (.slice b8 (k + 1) c8)) rd (k + 1) b8 c8 := by
  obtain ⟨hba, hz, _⟩ := hp.facts
  have ht8 : Touch (fun x => (Value.slice b k c).ownBlock = some x) wa w8 := grown_touch (Below.refl _ _) hg
  obtain ⟨_, _, hrow⟩ := h.row
  exact ⟨((Touch.of_below hba).trans ht8).heap h.2.2.1 (fun e => (hrow _ e).1 rfl), h.step hba rfl hz gs' he hown ht8⟩

set_option maxHeartbeats 4000000 in
theorem rnew_good (n : Nat) (w : World) (h1 : 1 ≤ n) (h2 : n ≤ 1024) :
    Calls Tryd.prog 6 #[.int .i64 n] w fun e w' => ∃ rd rl rc, e = .returned (.tuple #[.pointer (some ⟨rd, 0, none⟩), .int .i64 0]) ∧ Below w.heap.size w w' ∧ IsRef w' w.heap.size rd rl rc ⟨List.replicate n zsec, -1, false, 0⟩ := by
  have hd1 : decide ((n : Int) < 1) = false := by simp; omega
  have hd2 : decide ((1024 : Int) < (n : Int)) = false := by simp; omega
  have hmk := make64
  go_enter Tryd.func6, Tryd.ntmps6
  go_wp2
  go_loopw [5] (fun i wr => ∃ k b c, k ≤ n ∧ i = .int .i64 (k : Nat) ∧ Hid (NewSt w wr w.heap.size k b c)) (fun i _ => n - (intOf i).toNat)
  case atStart => exact ⟨0, none, 0, Nat.zero_le _, rfl, Lib.hid ⟨(Below.refl _ _).alloc (Nat.le_refl _) _, Nat.le_refl _, heap_new _ _, [], rfl, World.ownsRow_nil _ _ _ _, fun i hi => by simp at hi, fun i j hi => by simp at hi⟩⟩
  case round =>
    obtain ⟨k, b, c, hk, rfl, HS⟩ := hrel
    by_cases hlt : k < n
    · have f0 : wr.cell? ⟨w.heap.size, 0, none⟩ = some (.slice b k c) := by rw [cell_of_block HS.out.2.2.1]; rfl
      obtain ⟨gs, hrow, hsub⟩ := HS.out.row
      have hsz : w.heap.size ≤ wr.heap.size := HS.out.1.size
      have HSUB := Lib.hid hsub
      have HRD := Lib.hid HS.out.2.2.1
      have HR := Lib.hid hrow
      have k0 : wr.drew.cell? ⟨w.heap.size, 0, none⟩ = some (.slice b k c) := f0
      have k1 : (wr.alloc (.cells z64.toArray 5)).drew.cell? ⟨w.heap.size, 0, none⟩ = some (.slice b k c) := cell_alloc f0 _
      have k2 : (wr.drew.alloc (.cells z64.toArray 5)).cell? ⟨w.heap.size, 0, none⟩ = some (.slice b k c) := cell_alloc k0 _
      have k3 : (wr.drew.alloc (.cells z64.toArray 5)).drew.cell? ⟨w.heap.size, 0, none⟩ = some (.slice b k c) := k2
      have k4 : ((wr.alloc (.cells z64.toArray 5)).alloc (.cells #[.slice (some ⟨wr.heap.size, 0, none⟩) 64 64] 42)).drew.cell? ⟨w.heap.size, 0, none⟩ = some (.slice b k c) := cell_alloc k1 _
      have k5 : ((wr.drew.alloc (.cells z64.toArray 5)).alloc (.cells #[.slice (some ⟨wr.heap.size, 0, none⟩) 64 64] 42)).cell? ⟨w.heap.size, 0, none⟩ = some (.slice b k c) := cell_alloc k2 _
      clear hrow hsub
      go_wp2
      go_region_law (first
        | (refine step_append_any rowBs rfl (.tmp 23) (.tmp 25) (by rfl) w.heap.size (.slice b k c) k (gs.map sl64) (by simp [Act.eval, Act.put]) (owns_touch HR.out (by repeat (first | exact Touch.refl _ _ | apply Touch.drew | apply Touch.alloc)) (fun _ _ => id)) (some ⟨wr.heap.size + 1, 0, none⟩) 1 1 [sl64 wr.heap.size] (by simp [Act.eval, Act.put]) rfl (at_pair wr _ _ (by first | exact .inl rfl | exact .inr (.inl rfl) | exact .inr (.inr (.inl rfl)) | exact .inr (.inr (.inr rfl)))) (one_cell _ rfl) (by unfold maxLen; omega) (by omega) (by simp; omega) ?_; intro b8 c8 w8 hown8 hg8 hat8
           have HN := Lib.hid (HS.out.step2 gs HR.out _ (by first | exact .inl rfl | exact .inr (.inl rfl) | exact .inr (.inr (.inl rfl)) | exact .inr (.inr (.inr rfl))) hown8 hg8)
           have hb8 := HN.out.1
           have q1 : w8.cell? ⟨w.heap.size, 0, none⟩ = some (.slice b k c) := by rw [cell_of_block hb8]; rfl
           have qf : w8.frozen? ⟨w.heap.size, 0, none⟩ = false := book_frozen hb8
           clear hown8 hg8 hat8 hb8)
        | fail)
      all_goals
        have HN2 := Lib.hid HN.out.2
        clear q1 qf f0 k0 k1 k2 k3 k4 k5
        go_wp2
        go_roundw
        case rel => exact ⟨k + 1, b8, c8, by omega, by go_num, HN2⟩
        case measure => simp [intOf]; omega
    · have hke : k = n := by omega
      subst hke
      go_wp2
      go_ret2
      obtain ⟨rl, hr⟩ := HS.out.done h1 h2
      exact ⟨_, rl, c, rfl, HS.out.1, hr⟩

end Go.Proofs.YtppmpgkkegldnaaDoor
