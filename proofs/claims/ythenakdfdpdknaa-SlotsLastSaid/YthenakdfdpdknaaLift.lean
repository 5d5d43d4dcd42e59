/- From a contract on what a call is handed, with its sizes, to a statement: lemmas of our own; no condition. -/
import Derived.Test.YthenakdfdpdknaaOpened
namespace Go.Proofs.Ythenakdfdpdknaa
open Go.ChangeShapes Go.WideShapes Go.ChangeAt Go.RowKit Go.Deep
set_option linter.unusedVariables false

theorem returnsInHanded_of_change6 {H : Type} {enc : TypeId × Value → H} {a : Assume} {C : Checked} {os : Os} {f : FuncId} {fn : Func} {s : ChangeSpec} {conds : List PathCond} {apart fresh handsOn again : Bool}
    (own : ownKnob C.prog.godebug = none) (started : os.Started) (noInit : C.prog.inits.idxOf? f = none) (hfn : C.prog.funcs[f]? = some fn)
    (witness : ∃ (w : World) (tape : Tape) (i : Input), w.os = os ∧ (w.forCall tape i).Shaped C.prog ∧ i.vars = [] ∧ Input.okWide C.prog (w.forCall tape i) .any w.heap.size f i ∧
      s.pre6 enc C.prog fn conds apart (w.forCall tape i).memory i.args ∧ a.holds C.prog (lone (Frame.enter C.prog f i.args .normal) [] (w.forCall tape i)))
    (contract : ∀ (W : World) (base : Nat) (args : Array Value) (ds gs : List (DataW H)) (before : List MemPlace),
      (∀ (j : Nat) t v, fn.params[j]? = some t → args[j]? = some v → Value.okWide C.prog W .any base t v) →
      DataW.Whole enc C.prog fn.params.toList s.vars apart W args.toList ds gs before →
      conds.all (PathCond.test C.prog ⟨fn.params.toList, ds, s.plain.varTypes C.prog, gs⟩) = true →
      (DataW.weightsEach C.prog (fn.params.toList ++ s.plain.varTypes C.prog) (ds ++ gs)).all (· ≤ reachBytes) = true →
      a.holds C.prog (lone (Frame.enter C.prog f args .normal) [] W) →
      Calls C.prog f args W fun e W' => ∃ v, e = .returned v ∧ s.post enc C.prog fn apart fresh handsOn again W args v W') :
    ReturnsInHanded a C os f .any (s.pre6 enc C.prog fn conds apart) (s.post enc C.prog fn apart fresh handsOn again) := by
  refine returnsInHanded_of_calls own started noInit witness ?_
  intro w tape i _ _ _ hok hpre hholds
  obtain ⟨_, _, _, fn', hfn', _, _, _, _, hval⟩ := hok
  have e : fn' = fn := Option.some.inj (hfn'.symm.trans hfn)
  subst e
  obtain ⟨⟨ds, gs, before, hw, hc⟩, hz⟩ := hpre
  have hw' := DataW.Whole.of_heap (w' := w.forCall tape i) (by rfl) hw
  refine (contract (w.forCall tape i) w.heap.size i.args ds gs before hval hw' hc (hz.weights hw) hholds).mono fun e W' ⟨v, he, hp⟩ => ?_
  subst he
  exact ChangeSpec.post_blind hp

section
variable {P : Program} {w : World} {t e : TypeId} {cs : List Value} {r : Reach} {b0 : Nat} {v : Value}
/-- A piece of a list. -/
theorem drop_piece (cs : List Value) (o n : Nat) : cs.drop o = (cs.drop o).take n ++ cs.drop (o + n) := by
  rw [← List.drop_drop]; exact (List.take_append_drop _ _).symm
theorem Opened.structV {fs : Array Field} (ht : P.underlying t = some (.struct fs)) (hv : Value.okWide P w r b0 t v) (o : Opened P w t v.cells.toList) : ∃ cs : List Value, v = .agg cs.toArray ∧ Opened P w t cs := by
  simp only [Value.okWide, ht] at hv
  obtain ⟨cs, rfl, _⟩ := hv
  exact ⟨cs.toList, by simp, o⟩
theorem Opened.arrayV {m : Nat} (ht : P.underlying t = some (.array m e)) (hv : Value.okWide P w r b0 t v) (o : Opened P w t v.cells.toList) : ∃ cs : List Value, v = .agg cs.toArray ∧ Opened P w t cs := by
  simp only [Value.okWide, ht] at hv
  obtain ⟨cs, rfl, _⟩ := hv
  exact ⟨cs.toList, by simp, o⟩
theorem Opened.sliceV (ht : P.underlying t = some (.slice e)) (hv : Value.okWide P w r b0 t v) (o : Opened P w t v.cells.toList) : v.cells.toList = [v] := by
  obtain ⟨a0, len0, cap0, rfl⟩ := okWide_slice ht hv
  rfl
theorem Opened.intV {q : IntKind} (ht : P.underlying t = some (.int q)) (hv : Value.okWide P w r b0 t v) : v.cells.toList = [v] := by
  simp only [Value.okWide, ht] at hv
  cases v with
  | agg cs => simp [Cell.okWide, Cell.ok, ht] at hv
  | _ => rfl
theorem Opened.boolV (ht : P.underlying t = some .bool) (hv : Value.okWide P w r b0 t v) : v.cells.toList = [v] := by
  simp only [Value.okWide, ht] at hv
  cases v with
  | agg cs => simp [Cell.okWide, Cell.ok, ht] at hv
  | _ => rfl
theorem list_one {a b : Value} (h : [a] = [b]) : a = b := by simpa using h
theorem Opened.i64 (h : Opened P w t cs) (ht : P.underlying t = some (.int .i64)) : ∃ x : Int, cs = [.int .i64 x] ∧ -9223372036854775808 ≤ x ∧ x ≤ 9223372036854775807 := by
  obtain ⟨n, rfl, hw⟩ := h.int ht
  exact ⟨n, rfl, i64_bounds hw⟩
theorem Opened.bool (h : Opened P w t cs) (ht : P.underlying t = some .bool) : ∃ x : Bool, cs = [.bool x] := by
  obtain ⟨H, enc, fuel, x, hf, hs⟩ := h
  cases fuel with
  | zero => simp [DataW.trod] at hf
  | succ n =>
    simp only [DataW.trod, ht] at hf
    match cs, hf with
    | [.bool b], _ => exact ⟨b, rfl⟩
theorem Opened.u8V (ht : P.underlying t = some (.int .u8)) (hv : Value.okWide P w r b0 t v) (o : Opened P w t v.cells.toList) : ∃ x : UInt8, v = .int .u8 x.toNat := by
  rw [Opened.intV ht hv] at o
  obtain ⟨x, hx⟩ := o.u8 ht
  exact ⟨x, list_one hx⟩
theorem Opened.u32V (ht : P.underlying t = some (.int .u32)) (hv : Value.okWide P w r b0 t v) (o : Opened P w t v.cells.toList) : ∃ x : UInt32, v = .int .u32 x.toNat := by
  rw [Opened.intV ht hv] at o
  obtain ⟨x, hx⟩ := o.u32 ht
  exact ⟨x, list_one hx⟩
theorem Opened.u64V (ht : P.underlying t = some (.int .u64)) (hv : Value.okWide P w r b0 t v) (o : Opened P w t v.cells.toList) : ∃ x : UInt64, v = .int .u64 x.toNat := by
  rw [Opened.intV ht hv] at o
  obtain ⟨x, hx⟩ := o.u64 ht
  exact ⟨x, list_one hx⟩
theorem Opened.i64V (ht : P.underlying t = some (.int .i64)) (hv : Value.okWide P w r b0 t v) (o : Opened P w t v.cells.toList) : ∃ x : Int, v = .int .i64 x ∧ -9223372036854775808 ≤ x ∧ x ≤ 9223372036854775807 := by
  rw [Opened.intV ht hv] at o
  obtain ⟨x, hx, hb⟩ := o.i64 ht
  exact ⟨x, list_one hx, hb⟩
theorem Opened.boolV' (ht : P.underlying t = some .bool) (hv : Value.okWide P w r b0 t v) (o : Opened P w t v.cells.toList) : ∃ x : Bool, v = .bool x := by
  rw [Opened.boolV ht hv] at o
  obtain ⟨x, hx⟩ := o.bool ht
  exact ⟨x, list_one hx⟩
theorem Opened.bytesV (ht : P.underlying t = some (.slice e)) (he : P.underlying e = some (.int .u8)) (hc : P.cellsOf e = 1) (hb : P.bytesOf e = 1) (hv : Value.okWide P w r b0 t v) (o : Opened P w t v.cells.toList) :
    ∃ a n c l, v = .slice a n c ∧ IsB w a n c l ∧ l.length ≤ 140737488351232 := by
  rw [Opened.sliceV ht hv o] at o
  obtain ⟨a, n, c, l, hx, hB, hl⟩ := o.bytes ht he hc hb
  exact ⟨a, n, c, l, list_one hx, hB, hl⟩
theorem Opened.bytessV {e2 : TypeId} (ht : P.underlying t = some (.slice e)) (he : P.underlying e = some (.slice e2)) (he2 : P.underlying e2 = some (.int .u8)) (hc : P.cellsOf e = 1) (hc2 : P.cellsOf e2 = 1) (hb2 : P.bytesOf e2 = 1) (hv : Value.okWide P w r b0 t v) (o : Opened P w t v.cells.toList) :
    ∃ a n c L, v = .slice a n c ∧ IsBB w 0 a n c L ∧ ∀ l ∈ L, l.length ≤ 140737488351232 := by
  rw [Opened.sliceV ht hv o] at o
  obtain ⟨a, n, c, l, hx, hB, hl⟩ := o.bytess ht he he2 hc hc2 hb2
  exact ⟨a, n, c, l, list_one hx, hB, hl⟩
end

theorem oBytes {w : World} {r : Reach} {b0 : Nat} {v : Value} (hv : Value.okWide Try.prog w r b0 23 v) (o : Opened Try.prog w 23 v.cells.toList) : ∃ a n c l, v = .slice a n c ∧ IsB w a n c l ∧ l.length ≤ 140737488351232 := Opened.bytesV Try.underlying23 Try.underlying5 (by kernel_rfl) (by kernel_rfl) hv o
theorem oBytess {w : World} {r : Reach} {b0 : Nat} {v : Value} (hv : Value.okWide Try.prog w r b0 22 v) (o : Opened Try.prog w 22 v.cells.toList) : ∃ a n c L, v = .slice a n c ∧ IsBB w 0 a n c L ∧ ∀ l ∈ L, l.length ≤ 140737488351232 := Opened.bytessV Try.underlying22 Try.underlying23 Try.underlying5 (by kernel_rfl) (by kernel_rfl) (by kernel_rfl) hv o
theorem oU8 {w : World} {r : Reach} {b0 : Nat} {v : Value} (hv : Value.okWide Try.prog w r b0 5 v) (o : Opened Try.prog w 5 v.cells.toList) : ∃ x : UInt8, v = .int .u8 x.toNat := Opened.u8V Try.underlying5 hv o

end Go.Proofs.Ythenakdfdpdknaa
