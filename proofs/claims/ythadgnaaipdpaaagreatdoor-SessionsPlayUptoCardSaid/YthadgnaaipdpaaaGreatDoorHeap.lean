/- Laws of our own on what a call leaves of the memory, and on copy; no program in sight. -/
import Derived.Test.YthadgnaaipdpaaaGreatDoorAppend
import Derived.Laws.CopyOwn
import Derived.Laws.EntriesVeiled
import Derived.Deep.MidRow
namespace Go.Proofs.YthadgnaaipdpaaaGreatDoor
open Go.RowKit
set_option linter.unusedVariables false

/-- All blocks that were there, but those of S, are as they were. -/
structure Touch (S : Nat → Prop) (w w' : World) : Prop where
  os : w'.os = w.os
  tape : w'.tape = w.tape
  output : w'.output = w.output
  size : w.heap.size ≤ w'.heap.size
  block : ∀ k, k < w.heap.size → ¬ S k → w'.heap[k]? = w.heap[k]?

theorem Touch.refl (S : Nat → Prop) (w : World) : Touch S w w := ⟨rfl, rfl, rfl, Nat.le_refl _, fun _ _ _ => rfl⟩
theorem Touch.trans {S : Nat → Prop} {a b c : World} (h : Touch S a b) (k : Touch S b c) : Touch S a c :=
  ⟨k.os.trans h.os, k.tape.trans h.tape, k.output.trans h.output, Nat.le_trans h.size k.size, fun j hj hs => (k.block j (Nat.lt_of_lt_of_le hj h.size) hs).trans (h.block j hj hs)⟩
theorem Touch.weaken {S T : Nat → Prop} {w w' : World} (h : Touch S w w') (hs : ∀ k, k < w.heap.size → S k → T k) : Touch T w w' :=
  ⟨h.os, h.tape, h.output, h.size, fun k hk ht => h.block k hk fun hk' => ht (hs k hk hk')⟩
theorem Touch.andThen {S T : Nat → Prop} {a b c : World} (h : Touch S a b) (k : Touch T b c) (hT : ∀ j, T j → S j ∨ a.heap.size ≤ j) : Touch S a c :=
  ⟨k.os.trans h.os, k.tape.trans h.tape, k.output.trans h.output, Nat.le_trans h.size k.size, fun j hj hs => (k.block j (Nat.lt_of_lt_of_le hj h.size) (fun ht => by
    rcases hT j ht with h1 | h1
    · exact hs h1
    · omega)).trans (h.block j hj hs)⟩
theorem Touch.of_below {S : Nat → Prop} {w w' : World} (h : Below w.heap.size w w') : Touch S w w' := ⟨h.os, h.tape, h.output, h.size, fun k hk _ => h.block k hk⟩
theorem Touch.below {S : Nat → Prop} {w w' : World} (h : Touch S w w') {B : Nat} (hB : B ≤ w.heap.size) (hs : ∀ k, k < B → ¬ S k) : Below B w w' :=
  ⟨h.os, h.tape, h.output, h.size, fun k hk => h.block k (Nat.lt_of_lt_of_le hk hB) (hs k hk)⟩
theorem Touch.alloc {S : Nat → Prop} {a w : World} (h : Touch S a w) (o : Obj) : Touch S a (w.alloc o) :=
  h.trans (Touch.of_below ((Below.refl _ _).alloc (Nat.le_refl _) o))
theorem Touch.drew {S : Nat → Prop} {a w : World} (h : Touch S a w) : Touch S a w.drew := h.trans (Touch.of_below (Below.refl _ _).drew)
theorem Touch.drewN {S : Nat → Prop} {a w : World} (h : Touch S a w) (n : Nat) : Touch S a (w.drewN n) := h.trans (Touch.of_below (below_drewN (Below.refl _ _) n))
theorem Touch.setCell {S : Nat → Prop} {a w : World} (h : Touch S a w) (p : Addr) (u : Value) (hp : S p.block ∨ a.heap.size ≤ p.block) : Touch S a (w.setCell p u) := by
  refine ⟨h.os, h.tape, h.output, by simpa using h.size, fun k hk hs => ?_⟩
  rw [Below.heap_setCell _ _ _ _ (by rcases hp with hp | hp
                                     · exact fun e => hs (e ▸ hp)
                                     · omega)]
  exact h.block k hk hs
theorem Touch.setRow {S : Nat → Prop} {a w : World} (h : Touch S a w) (g : Nat) (cs : Array Value) (hp : S g ∨ a.heap.size ≤ g) : Touch S a (w.setRow g cs) := by
  refine ⟨h.os, h.tape, h.output, by simpa using h.size, fun k hk hs => ?_⟩
  rw [setRow_other _ _ _ _ (by rcases hp with hp | hp
                               · exact fun e => hs (e ▸ hp)
                               · omega)]
  exact h.block k hk hs
theorem Touch.grown {S : Nat → Prop} {a w w' : World} {row : Option Nat} (h : Touch S a w) (hg : w.grownBy w' row) (hr : ∀ k, row = some k → S k ∨ a.heap.size ≤ k) : Touch S a w' := by
  refine ⟨hg.os.trans h.os, hg.tape.trans h.tape, hg.output.trans h.output, Nat.le_trans h.size hg.size, fun k hk hs => ?_⟩
  have hne : some k ≠ row := fun e => by
    rcases hr k e.symm with h1 | h1
    · exact hs h1
    · omega
  rw [hg.block k (Nat.lt_of_lt_of_le hk h.size) hne]
  exact h.block k hk hs
theorem lt_of_heap {w : World} {k : Nat} {o : Obj} (h : w.heap[k]? = some o) : k < w.heap.size := by
  rcases Nat.lt_or_ge k w.heap.size with h' | h'
  · exact h'
  · simp [Array.getElem?_eq_none h'] at h
theorem Touch.heap {S : Nat → Prop} {w w' : World} (h : Touch S w w') {k : Nat} {o : Obj} (hk : w.heap[k]? = some o) (hs : ¬ S k) : w'.heap[k]? = some o := (h.block k (lt_of_heap hk) hs).trans hk
theorem Touch.cell {S : Nat → Prop} {w w' : World} (h : Touch S w w') {p : Addr} {v : Value} (hp : w.cell? p = some v) (hs : ¬ S p.block) : w'.cell? p = some v := by
  have hlt : p.block < w.heap.size := by
    rcases Nat.lt_or_ge p.block w.heap.size with h' | h'
    · exact h'
    · simp [World.cell?, Array.getElem?_eq_none h'] at hp
  rw [World.cell?_of_block (w := w) (h.block p.block hlt hs)]; exact hp
theorem below_heap {B : Nat} {w w' : World} (h : Below B w w') {k : Nat} {o : Obj} (hk : w.heap[k]? = some o) (hs : k < B) : w'.heap[k]? = some o := (h.block k hs).trans hk

theorem cell_alloc {w : World} {p : Addr} {v : Value} (h : w.cell? p = some v) (o : Obj) : (w.alloc o).cell? p = some v := (Touch.of_below (S := fun _ => False) ((Below.refl _ _).alloc (Nat.le_refl _) o)).cell h id

theorem IsB.touch {S : Nat → Prop} {w w' : World} {a : Option Addr} {n c : Nat} {l : List UInt8} (h : IsB w a n c l) (ht : Touch S w w') (hs : ∀ b off, a = some ⟨b, off, none⟩ → l ≠ [] → ¬ S b) : IsB w' a n c l := by
  obtain ⟨h1, h2, h3, h4 | ⟨b, off, rfl, hlt, hc⟩⟩ := h
  · exact ⟨h1, h2, h3, .inl h4⟩
  · by_cases hl : l = []
    · exact ⟨h1, h2, h3, .inl ⟨hl, fun h => by cases h⟩⟩
    · exact ⟨h1, h2, h3, .inr ⟨b, off, rfl, Nat.lt_of_lt_of_le hlt ht.size, fun i hi => ht.cell (hc i hi) (hs b off rfl hl)⟩⟩

/-! ### copy -/
theorem run_copy_any {P : Program} {t e : TypeId} {size bytes : Nat} {z : Value} (T : RowTy P t e size bytes z) (w : World) (sT ty : TypeId) (dp sp : Option Addr) (dLen dCap sLen sCap : Nat) (g off : Nat) (cur : Array Value) (et : TypeId)
    (hg : w.heap[g]? = some (.cells cur et (0, 0))) (cs : List Value) (hn : cs.length = Nat.min sLen dLen * size) (hd : 0 < cs.length → dp = some ⟨g, off, none⟩) (hat : At w sp cs) (hfit : off + cs.length ≤ cur.size) (h1 : ∀ v ∈ cs, v.oneCell' = true) :
    (Builtin.copy_ #[t, sT] ty #[.slice dp dLen dCap, .slice sp sLen sCap]).run P w = .ok (goInt (Nat.min sLen dLen)) (w.setRow g (cur.toList.take off ++ cs ++ cur.toList.drop (off + cs.length)).toArray) := by
  obtain ⟨i, hi, hz, hs, hb⟩ := info_parts T.info
  have ht := T.ht
  have hfc : (Builtin.firstCells i.size (Nat.min sLen dLen) (.slice sp sLen sCap)).run P w = .ok cs.toArray w := by
    cases sp with
    | none =>
      have : cs = [] := by
        cases cs with
        | nil => rfl
        | cons u us => obtain ⟨b, hb, _⟩ := hat 0 u rfl; cases hb
      subst this
      simp [Builtin.firstCells]
    | some b => exact run_firstCells_some (P := P) w i.size _ b sLen sCap cs (by rw [hs]; exact hn) (fun j v h => by obtain ⟨b', hb', hc⟩ := hat j v h; cases hb'; exact hc)
  rcases Nat.eq_zero_or_pos cs.length with h0 | hpos
  · have hcs : cs = [] := List.eq_nil_of_length_eq_zero h0
    subst hcs
    have hself : (cur.toList.take off ++ [] ++ cur.toList.drop (off + ([] : List Value).length)).toArray = cur := by simp
    rw [hself, setRow_self w g cur et (0, 0) hg]
    cases dp with
    | none => simp [Builtin.copy_, run_underlying ht, sizeOf, typeInfo, hi, Builtin.lenOf, hfc]
    | some a => simp [Builtin.copy_, run_underlying ht, sizeOf, typeInfo, hi, Builtin.lenOf, hfc, storeCells]
  · rw [hd hpos]
    have hst := run_storeCells_at P g off et cs 0 cur w hg (by omega) h1
    simp only [Nat.add_zero] at hst
    simp [Builtin.copy_, run_underlying ht, sizeOf, typeInfo, hi, Builtin.lenOf, hfc, hst]

theorem wp_copy_any {P : Program} {t e : TypeId} {size bytes : Nat} {z : Value} (T : RowTy P t e size bytes z) {w : World} {o : Oper} {a : Act} {K : Act → World → Prop} {Q : Exit → Act → World → Prop} (d s : Operand) (sT : TypeId)
    (ho : o.op = .call { callee := .builtin .copy, args := #[d, s], argTypes := #[t, sT] }) (dp sp : Option Addr) (dLen dCap sLen sCap : Nat) (hdv : a.eval d = .slice dp dLen dCap) (hsv : a.eval s = .slice sp sLen sCap) (g off : Nat) (cur : Array Value) (et : TypeId)
    (hg : w.heap[g]? = some (.cells cur et (0, 0))) (cs : List Value) (hn : cs.length = Nat.min sLen dLen * size) (hd : 0 < cs.length → dp = some ⟨g, off, none⟩) (hat : At w sp cs) (hfit : off + cs.length ≤ cur.size) (h1 : ∀ v ∈ cs, v.oneCell' = true)
    (h : ∀ w', w'.heap[g]? = some (.cells (cur.toList.take off ++ cs ++ cur.toList.drop (off + cs.length)).toArray et (0, 0)) → Touch (fun k => k = g) w w' → K (a.put o.dst (goInt (Nat.min sLen dLen))) w') : o.wp P a w K Q := by
  have hr := run_copy_any T w sT o.type dp sp dLen dCap sLen sCap g off cur et hg cs hn hd hat hfit h1
  unfold Oper.wp execOp
  simp only [ho, resolve, invoke, builtin, Sem.run_bind, Sem.run_pure, Result.andThen_ok, List.map_toArray, List.map_cons, List.map_nil, hdv, hsv, hr]
  exact h _ (setRow_heap w g cur _ et _ hg) ((Touch.refl _ w).setRow g _ (.inl rfl))

theorem wpList_copy_any {P : Program} {t e : TypeId} {size bytes : Nat} {z : Value} (T : RowTy P t e size bytes z) {w : World} {ops : Array Oper} {rest : List Oper} {o : Oper} {a : Act} {Q : Exit → Act → World → Prop} (hgd : o.guard = none) (d s : Operand) (sT : TypeId)
    (ho : o.op = .call { callee := .builtin .copy, args := #[d, s], argTypes := #[t, sT] }) (dp sp : Option Addr) (dLen dCap sLen sCap : Nat) (hdv : a.eval d = .slice dp dLen dCap) (hsv : a.eval s = .slice sp sLen sCap) (g off : Nat) (cur : Array Value) (et : TypeId)
    (hg : w.heap[g]? = some (.cells cur et (0, 0))) (cs : List Value) (hn : cs.length = Nat.min sLen dLen * size) (hd : 0 < cs.length → dp = some ⟨g, off, none⟩) (hat : At w sp cs) (hfit : off + cs.length ≤ cur.size) (h1 : ∀ v ∈ cs, v.oneCell' = true)
    (h : ∀ w', w'.heap[g]? = some (.cells (cur.toList.take off ++ cs ++ cur.toList.drop (off + cs.length)).toArray et (0, 0)) → Touch (fun k => k = g) w w' → wpList P ops Q rest (a.put o.dst (goInt (Nat.min sLen dLen))) w') : wpList P ops Q (o :: rest) a w :=
  wpList_plain hgd fun _ hK => wp_copy_any T d s sT ho dp sp dLen dCap sLen sCap hdv hsv g off cur et hg cs hn hd hat hfit h1 fun w' h2 h3 => hK _ _ (h w' h2 h3)

theorem step_copy_any {P : Program} {t e : TypeId} {size bytes : Nat} {z : Value} (T : RowTy P t e size bytes z) {w : World} {ops : Array Oper} {o : Oper} {a : Act} {K : Act → World → Prop} {Q : Exit → Act → World → Prop} {E : Prop} (hgd : o.guard = none) (d s : Operand) (sT : TypeId)
    (ho : o.op = .call { callee := .builtin .copy, args := #[d, s], argTypes := #[t, sT] }) (dp sp : Option Addr) (dLen dCap sLen sCap : Nat) (hdv : a.eval d = .slice dp dLen dCap) (hsv : a.eval s = .slice sp sLen sCap) (g off : Nat) (cur : Array Value) (et : TypeId)
    (hg : w.heap[g]? = some (.cells cur et (0, 0))) (cs : List Value) (hn : cs.length = Nat.min sLen dLen * size) (hd : 0 < cs.length → dp = some ⟨g, off, none⟩) (hat : At w sp cs) (hfit : off + cs.length ≤ cur.size) (h1 : ∀ v ∈ cs, v.oneCell' = true)
    (h : ∀ w', w'.heap[g]? = some (.cells (cur.toList.take off ++ cs ++ cur.toList.drop (off + cs.length)).toArray et (0, 0)) → Touch (fun k => k = g) w w' → K (a.put o.dst (goInt (Nat.min sLen dLen))) w') :
    if Region.wanted o (yielded ops a.tmps) = true then Oper.wp P o a w K Q else E := by
  have hw : Region.wanted o (yielded ops a.tmps) = true := by simp [Region.wanted, hgd]
  rw [if_pos hw]
  exact wp_copy_any T d s sT ho dp sp dLen dCap sLen sCap hdv hsv g off cur et hg cs hn hd hat hfit h1 h

/-! ### a new variable, its zero kept under a name -/
theorem wpList_alloc_any {P : Program} {w : World} {ops : Array Oper} {rest : List Oper} {o : Oper} {a : Act} {Q : Exit → Act → World → Prop} (hgd : o.guard = none) (t : TypeId) (ho : o.op = .alloc t)
    (z : Value) (hz : (P.info? t).map (·.zero) = some (some z)) (C : Array Value) (hC : z.cells = C)
    (h : wpList P ops Q rest (a.put o.dst (.pointer (some ⟨w.heap.size, 0, none⟩))) (w.alloc (.cells C t))) : wpList P ops Q (o :: rest) a w := by
  refine wpList_plain hgd fun K hK => ?_
  obtain ⟨i, hi, hzi⟩ := Option.map_eq_some_iff.1 hz
  subst hC
  unfold Oper.wp execOp
  simp only [ho, Instr.alloc]
  simp [zeroValue, typeInfo, hi, hzi, newVar, newRow]
  exact hK _ _ h

/-! ### many cells stored -/
theorem setCells_row (P : Program) (w : World) (g o : Nat) (vs : List Value) (cur : Array Value) (t : TypeId) (hg : w.heap[g]? = some (.cells cur t (0, 0))) (hfit : o + vs.length ≤ cur.size) (h1 : ∀ v ∈ vs, v.oneCell' = true) :
    w.setCells g o vs = w.setRow g (cur.toList.take o ++ vs ++ cur.toList.drop (o + vs.length)).toArray := by
  have r1 := run_storeCells_at P g o t vs 0 cur w hg (by omega) h1
  have r2 := run_storeCells_cells (P := P) g o vs 0 w (fun j hj => by rw [cell_of_block hg]; simp; omega) (fun j hj => by simp [World.frozen?, hg]) h1
  rw [r1] at r2
  simp only [Nat.add_zero] at r2
  have := (Result.ok.inj r2).2
  simpa using this.symm
theorem setCells_heap (P : Program) (w : World) (g o : Nat) (vs : List Value) (cur : Array Value) (t : TypeId) (hg : w.heap[g]? = some (.cells cur t (0, 0))) (hfit : o + vs.length ≤ cur.size) (h1 : ∀ v ∈ vs, v.oneCell' = true) :
    (w.setCells g o vs).heap[g]? = some (.cells (cur.toList.take o ++ vs ++ cur.toList.drop (o + vs.length)).toArray t (0, 0)) ∧ Touch (fun k => k = g) w (w.setCells g o vs) := by
  rw [setCells_row P w g o vs cur t hg hfit h1]
  exact ⟨setRow_heap w g cur _ t _ hg, (Touch.refl _ w).setRow g _ (.inl rfl)⟩
theorem rangeAt_row {w : World} {g : Nat} {cs : List Value} {t : TypeId} {fr : Nat × Nat} (hg : w.heap[g]? = some (.cells cs.toArray t fr)) : w.rangeAt g 0 cs := by
  intro j v hv
  rw [cell_of_block hg, Nat.zero_add, List.getElem?_toArray]; exact hv
theorem there_row {w : World} {g : Nat} {C : Array Value} {t : TypeId} (hg : w.heap[g]? = some (.cells C t (0, 0))) (o n : Nat) (hn : o + n ≤ C.size) : w.there g o n := by
  intro j hj
  exact ⟨by rw [cell_of_block hg]; simp; omega, by simp [World.frozen?, hg]⟩

end Go.Proofs.YthadgnaaipdpaaaGreatDoor
