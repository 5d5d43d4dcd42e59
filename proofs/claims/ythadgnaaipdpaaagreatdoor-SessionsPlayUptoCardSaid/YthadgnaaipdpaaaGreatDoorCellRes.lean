/- Structs of several cells in a variable, and as a result: laws of our own; no program in sight. -/
import Derived.Test.YthadgnaaipdpaaaGreatDoorBB
import Derived.Deep.MidRow
namespace Go.Proofs.YthadgnaaipdpaaaGreatDoor
open Go.RowKit
set_option linter.unusedVariables false

/-- A struct, or an array, is laid into a part of a variable. -/
theorem wpList_store_part {P : Program} {w : World} {ops : Array Oper} {rest : List Oper} {o : Oper} {a : Act} {Q : Exit → Act → World → Prop} (hgd : o.guard = none) (t : TypeId) (x y : Operand) (ho : o.op = .store t x y)
    (bz off : Nat) (cs : List Value) (C : Array Value) (ty : TypeId) (hg : w.heap[bz]? = some (.cells C ty (0, 0))) (hx : a.eval x = .pointer (some ⟨bz, off, none⟩)) (hy : a.eval y = .agg cs.toArray) (hfit : off + cs.length ≤ C.size)
    (hi : (P.info? t).map (·.size) = some cs.length) (h1 : ∀ v ∈ cs, v.oneCell' = true)
    (h : ∀ w', Touch (fun k => k = bz) w w' → w'.heap[bz]? = some (.cells (C.toList.take off ++ cs ++ C.toList.drop (off + cs.length)).toArray ty (0, 0)) → wpList P ops Q rest (a.put o.dst undef) w') : wpList P ops Q (o :: rest) a w := by
  refine wpList_store_mid hgd t x y ho bz off cs.toArray hx hy (there_row hg _ _ (by simpa using hfit)) (by simpa using hi) (all_oneCell_toArray h1) ?_
  obtain ⟨g, ht⟩ := setCells_heap P w bz off cs C ty hg hfit h1
  exact h _ ht g
/-- .. into the whole of it. -/
theorem wpList_store_whole {P : Program} {w : World} {ops : Array Oper} {rest : List Oper} {o : Oper} {a : Act} {Q : Exit → Act → World → Prop} (hgd : o.guard = none) (t : TypeId) (x y : Operand) (ho : o.op = .store t x y)
    (bz : Nat) (cs : List Value) (C : Array Value) (ty : TypeId) (hg : w.heap[bz]? = some (.cells C ty (0, 0))) (hx : a.eval x = .pointer (some ⟨bz, 0, none⟩)) (hy : a.eval y = .agg cs.toArray) (hfit : cs.length = C.size)
    (hi : (P.info? t).map (·.size) = some cs.length) (h1 : ∀ v ∈ cs, v.oneCell' = true)
    (h : ∀ w', Touch (fun k => k = bz) w w' → w'.heap[bz]? = some (.cells cs.toArray ty (0, 0)) → wpList P ops Q rest (a.put o.dst undef) w') : wpList P ops Q (o :: rest) a w := by
  refine wpList_store_part hgd t x y ho bz 0 cs C ty hg hx hy (by omega) hi h1 fun w' ht hw => h w' ht ?_
  rw [List.take_zero, List.nil_append, List.drop_eq_nil_of_le (by simp; omega), List.append_nil] at hw
  exact hw
theorem results_cell {P : Program} {fn : Func} {t : Tmp} {ty : TypeId} (h : fn.results = #[.cell t ty]) (tmps : Array Value) (w : World) (b o : Nat) (hp : tmps.getD t undef = .pointer (some ⟨b, o, none⟩)) (cs : List Value) (d : TypeDesc) (hc : w.rangeAt b o cs)
    (hu : P.underlying ty = some d) (hd : d.isRow = true) (hi : (P.info? ty).map (·.size) = some cs.length) : (results fn tmps).run P w = .ok (.agg cs.toArray) w := by
  have := run_loadVar_mid (P := P) w b o ty cs d hc hu hd hi
  have hp' : tmps[t]?.getD undef = .pointer (some ⟨b, o, none⟩) := by rw [← hp]; simp
  simp [results, h, hp', asAddr, this]
theorem results_cell_tmp {P : Program} {fn : Func} {t u : Tmp} {ty : TypeId} (h : fn.results = #[.cell t ty, .tmp u]) (tmps : Array Value) (w : World) (b o : Nat) (hp : tmps.getD t undef = .pointer (some ⟨b, o, none⟩)) (cs : List Value) (d : TypeDesc) (hc : w.rangeAt b o cs)
    (hu : P.underlying ty = some d) (hd : d.isRow = true) (hi : (P.info? ty).map (·.size) = some cs.length) : (results fn tmps).run P w = .ok (.tuple #[.agg cs.toArray, tmps.getD u undef]) w := by
  have := run_loadVar_mid (P := P) w b o ty cs d hc hu hd hi
  have hp' : tmps[t]?.getD undef = .pointer (some ⟨b, o, none⟩) := by rw [← hp]; simp
  simp [results, h, hp', asAddr, this]

end Go.Proofs.YthadgnaaipdpaaaGreatDoor
