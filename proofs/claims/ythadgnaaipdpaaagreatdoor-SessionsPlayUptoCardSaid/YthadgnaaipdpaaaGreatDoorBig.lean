/- Large values in memory: laws of our own; no program in sight. -/
import Derived.Test.YthadgnaaipdpaaaGreatDoorBB
namespace Go.Proofs.YthadgnaaipdpaaaGreatDoor
open Go.RowKit
set_option linter.unusedVariables false

theorem modify_push {α : Type} (a : Array α) (x : α) (f : α → α) : (a.push x).modify a.size f = a.push (f x) := by
  apply Array.ext
  · simp
  · intro i h1 h2
    simp only [Array.getElem_modify, Array.getElem_push]
    by_cases h : a.size = i
    · subst h
      simp
    · have hi : i < a.size := by simp at h1; omega
      simp [h, hi]
theorem setRow_alloc (w : World) (Z C : Array Value) (t : TypeId) (fz : Nat × Nat) : (w.alloc (.cells Z t fz)).setRow w.heap.size C = w.alloc (.cells C t fz) := by
  unfold World.setRow
  show ({ w.alloc (.cells Z t fz) with heap := (w.heap.push (.cells Z t fz)).modify w.heap.size _ } : World) = _
  rw [modify_push]
  rfl
theorem setCells_alloc (P : Program) (w : World) (Z C : Array Value) (t : TypeId) (hs : C.size = Z.size) (h1 : ∀ v ∈ C.toList, v.oneCell' = true) : (w.alloc (.cells Z t)).setCells w.heap.size 0 C.toList = w.alloc (.cells C t) := by
  rw [setCells_row P (w.alloc (.cells Z t)) w.heap.size 0 C.toList Z t (heap_new w _) (by simp; omega) h1, setRow_alloc]
  congr 3
  simp
  omega

/-- 'x := v': a new variable, and what is laid in it. -/
theorem wpList_declare {P : Program} {w : World} {ops : Array Oper} {rest : List Oper} {o1 o2 : Oper} {a : Act} {Q : Exit → Act → World → Prop} (g1 : o1.guard = none) (g2 : o2.guard = none) (t : TypeId) (h1 : o1.op = .alloc t) (x y : Operand) (h2 : o2.op = .store t x y)
    (z : Value) (hz : (P.info? t).map (·.zero) = some (some z)) (cells : Array Value) (hzs : z.cells.size = cells.size) (hi : (P.info? t).map (·.size) = some cells.size)
    (hx : (a.put o1.dst (.pointer (some ⟨w.heap.size, 0, none⟩))).eval x = .pointer (some ⟨w.heap.size, 0, none⟩)) (hy : (a.put o1.dst (.pointer (some ⟨w.heap.size, 0, none⟩))).eval y = .agg cells) (hone : ∀ v ∈ cells.toList, v.oneCell' = true)
    (h : wpList P ops Q rest ((a.put o1.dst (.pointer (some ⟨w.heap.size, 0, none⟩))).put o2.dst undef) (w.alloc (.cells cells t))) : wpList P ops Q (o1 :: o2 :: rest) a w := by
  refine wpList_alloc_any g1 t h1 z hz z.cells rfl ?_
  refine wpList_store_mid g2 t x y h2 w.heap.size 0 cells hx hy ?_ hi ?_ ?_
  · exact there_row (heap_new w _) 0 cells.size (by omega)
  · have := all_oneCell_toArray hone
    simpa using this
  · rw [setCells_alloc P w z.cells cells t hzs.symm hone]
    exact h

/-- A block's cells from o on. -/
theorem rangeAt_mid {w : World} {g o : Nat} {C : Array Value} {cs : List Value} {t : TypeId} {fr : Nat × Nat} (hg : w.heap[g]? = some (.cells C t fr)) (hc : (C.toList.drop o).take cs.length = cs) : w.rangeAt g o cs := by
  intro j v hv
  rw [cell_of_block hg]
  have hj := (List.getElem?_eq_some_iff.1 hv).1
  have : ((C.toList.drop o).take cs.length)[j]? = some v := by rw [hc]; exact hv
  rw [List.getElem?_take, if_pos hj, List.getElem?_drop] at this
  simpa using this

end Go.Proofs.YthadgnaaipdpaaaGreatDoor
