/- The document's disk (salesroomref03): what its functions do in memory; conditions: those typed. -/
import Derived.Test.YtppmpgkkegldnaaDoorDisksC
import Derived.Test.YtppmpgkkegldnaaDoorAppend
import Derived.Deep.RegionHeld3
import Derived.Deep.RegionLaw
namespace Go.Proofs.YtppmpgkkegldnaaDoor
open Go.RowKit
set_option linter.unusedVariables false
set_option linter.unusedSimpArgs false
set_option maxRecDepth 100000

def sl64 (g : Nat) : Value := .slice (some ⟨g, 0, none⟩) 64 64
theorem sl64_one (l : List Nat) : ∀ u ∈ l.map sl64, u.oneCell' = true := fun u hu => by
  obtain ⟨g, _, rfl⟩ := List.mem_map.1 hu; rfl

/-- The document's disk in memory, its blocks from B on. -/
structure IsRef (w : World) (B rd rl rc : Nat) (R : Dsk) : Prop where
  le : B ≤ rd
  pos : 1 ≤ R.secs.length
  most : R.secs.length ≤ 1024
  secs : Secs R.secs
  cells : w.heap[rd]? = some (.cells #[.slice (some ⟨rl, 0, none⟩) R.secs.length rc, .int .i64 R.left, .bool R.blown, .int .i64 R.writes] 62 (0, 0))
  row : ∃ gs : List Nat, gs.length = R.secs.length ∧ w.ownsRow B 42 1 (.slice (some ⟨rl, 0, none⟩) R.secs.length rc) R.secs.length (gs.map sl64) ∧ (∀ i (h : i < gs.length) (h' : i < R.secs.length), RowB w gs[i] R.secs[i] ∧ B ≤ gs[i]) ∧ (∀ i j (hi : i < gs.length) (hj : j < gs.length), i ≠ j → gs[i] ≠ gs[j])

/-- No block of a document's disk is among them. -/
def NoRef (w : World) (S : Nat → Prop) : Prop := ∀ k, S k → ∀ cur t fz, w.heap[k]? = some (.cells cur t fz) → t ≠ 5 ∧ t ≠ 42 ∧ t ≠ 62
theorem IsRef.touch {S : Nat → Prop} {w w' : World} {B rd rl rc : Nat} {R : Dsk} (h : IsRef w B rd rl rc R) (ht : Touch S w w') (hs : NoRef w S) : IsRef w' B rd rl rc R := by
  obtain ⟨gs, g1, g2, g3, g4⟩ := h.row
  refine ⟨h.le, h.pos, h.most, h.secs, ht.heap h.cells (fun e => (hs rd e _ _ _ h.cells).2.2 rfl), gs, g1, owns_touch g2 ht (fun k hk e => ?_), fun i hi hi' => ⟨ht.heap (g3 i hi hi').1 (fun e => (hs _ e _ _ _ (g3 i hi hi').1).1 rfl), (g3 i hi hi').2⟩, g4⟩
  obtain ⟨cur, hc⟩ := owns_block g2 hk
  exact (hs k e _ _ _ hc).2.1 rfl
theorem IsRef.below {w w' : World} {B rd rl rc : Nat} {R : Dsk} (h : IsRef w B rd rl rc R) (hb : Below w.heap.size w w') : IsRef w' B rd rl rc R := h.touch (Touch.of_below (S := fun _ => False) hb) (fun _ h => h.elim)
theorem IsRef.field {w : World} {B rd rl rc : Nat} {R : Dsk} (h : IsRef w B rd rl rc R) :
    w.cell? ⟨rd, 0, none⟩ = some (.slice (some ⟨rl, 0, none⟩) R.secs.length rc) ∧ w.cell? ⟨rd, 1, none⟩ = some (.int .i64 R.left) ∧ w.cell? ⟨rd, 2, none⟩ = some (.bool R.blown) ∧ w.cell? ⟨rd, 3, none⟩ = some (.int .i64 R.writes) := by
  refine ⟨?_, ?_, ?_, ?_⟩ <;> rw [cell_of_block h.cells] <;> rfl

/-! ### what only reads -/
theorem rlen_any (B rd rl rc : Nat) (R : Dsk) (w : World) (h : IsRef w B rd rl rc R) :
    Calls Tryd.prog 23 #[.pointer (some ⟨rd, 0, none⟩)] w fun e w' => e = .returned (.int .i64 R.secs.length) ∧ w = w' := by
  obtain ⟨f0, f1, f2, f3⟩ := h.field
  clear h
  go_enter Tryd.func23, Tryd.ntmps23
  go_wp2
  go_ret
  exact ⟨rfl, rfl⟩
theorem rwrites_any (B rd rl rc : Nat) (R : Dsk) (w : World) (h : IsRef w B rd rl rc R) :
    Calls Tryd.prog 21 #[.pointer (some ⟨rd, 0, none⟩)] w fun e w' => e = .returned (.int .i64 R.writes) ∧ w = w' := by
  obtain ⟨f0, f1, f2, f3⟩ := h.field
  clear h
  go_enter Tryd.func21, Tryd.ntmps21
  go_wp2
  go_ret
  exact ⟨rfl, rfl⟩
theorem rblown_any (B rd rl rc : Nat) (R : Dsk) (w : World) (h : IsRef w B rd rl rc R) :
    Calls Tryd.prog 20 #[.pointer (some ⟨rd, 0, none⟩)] w fun e w' => e = .returned (.bool R.blown) ∧ w = w' := by
  obtain ⟨f0, f1, f2, f3⟩ := h.field
  clear h
  go_enter Tryd.func20, Tryd.ntmps20
  go_wp2
  go_ret
  exact ⟨rfl, rfl⟩

theorem IsRef.own {w : World} {B rd rl rc : Nat} {R : Dsk} (h : IsRef w B rd rl rc R) {w' : World} (ht : Touch (fun k => k = rd) w w') (R' : Dsk) (e : R'.secs = R.secs)
    (hc : w'.heap[rd]? = some (.cells #[.slice (some ⟨rl, 0, none⟩) R.secs.length rc, .int .i64 R'.left, .bool R'.blown, .int .i64 R'.writes] 62 (0, 0))) : IsRef w' B rd rl rc R' := by
  obtain ⟨S, l, b, n⟩ := R'
  obtain rfl : S = R.secs := e
  obtain ⟨gs, g1, g2, g3, g4⟩ := h.row
  refine ⟨h.le, h.pos, h.most, h.secs, hc, gs, g1, owns_touch g2 ht (fun k hk e => ?_), fun i hi hi' => ⟨ht.heap (g3 i hi hi').1 (fun e => ?_), (g3 i hi hi').2⟩, g4⟩
  · obtain ⟨cur, hc⟩ := owns_block g2 hk
    rw [e, h.cells] at hc
    have := (Obj.cells.inj (Option.some.inj hc)).2.1
    revert this; decide
  · have hc := (g3 i hi hi').1
    unfold RowB at hc
    rw [e, h.cells] at hc
    have := (Obj.cells.inj (Option.some.inj hc)).2.1
    revert this; decide

/-! ### Fuse -/
theorem rfuse_any (B rd rl rc : Nat) (R : Dsk) (n : Int) (w : World) (h : IsRef w B rd rl rc R) :
    Calls Tryd.prog 13 #[.pointer (some ⟨rd, 0, none⟩), .int .i64 n] w fun e w' => e = .returned (.int .i64 (if R.blown then 8 else 0)) ∧ Touch (fun k => k = rd) w w' ∧ IsRef w' B rd rl rc (if R.blown then R else { R with left := max (-1) n }) := by
  obtain ⟨f0, f1, f2, f3⟩ := h.field
  have hfr : ∀ i, w.frozen? ⟨rd, i, none⟩ = false := fun i => by simp [World.frozen?, h.cells]
  have H := Lib.hid h
  clear h
  cases hB : R.blown
  · rw [hB] at f2
    go_enter Tryd.func13, Tryd.ntmps13
    go_wp2
    all_goals go_ret
    all_goals refine ⟨rfl, (Touch.refl _ _).setCell _ _ (.inl rfl), H.out.own ((Touch.refl _ _).setCell _ _ (.inl rfl)) _ rfl ?_⟩
    · rw [heap_setCell_same _ _ _ _ _ _ H.out.cells, show max (-1) n = n by omega]; simp [hB]
    · rw [heap_setCell_same _ _ _ _ _ _ H.out.cells, show max (-1) n = -1 by omega]; simp [hB]
  · rw [hB] at f2
    go_enter Tryd.func13, Tryd.ntmps13
    go_wp2
    go_ret
    exact ⟨rfl, Touch.refl _ _, H.out⟩

end Go.Proofs.YtppmpgkkegldnaaDoor
