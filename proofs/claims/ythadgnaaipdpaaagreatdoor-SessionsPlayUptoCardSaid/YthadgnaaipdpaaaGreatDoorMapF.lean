/- Laws of our own on maps that a call has made, read as functions of their keys; no condition. -/
import Derived.Test.YthadgnaaipdpaaaGreatDoorHeap
import Derived.MapKept
import Derived.ChangeMaps5
import Derived.Maps.OwnSet
namespace Go.Proofs.YthadgnaaipdpaaaGreatDoor
open Go.RowKit Go.MapKept Go.ChangeMaps
set_option linter.unusedVariables false

/-- How keys of a map are told. -/
structure KeyEnc (P : Program) (kt : TypeId) (K : Type) where
  d : TypeDesc
  hd : P.underlying kt = some d
  key : K → Value
  is : ∀ k, IsKey d (key k)
  inj : ∀ a b, key a = key b → a = b

def u8key {P : Program} {kt : TypeId} (h : P.underlying kt = some (.int .u8)) : KeyEnc P kt UInt8 :=
  ⟨.int .u8, h, fun k => .int .u8 k.toNat, fun _ => rfl, fun a b e => by
    simp at e
    exact UInt8.toNat_inj.1 (by exact_mod_cast e)⟩

section
variable {P : Program} {kt : TypeId} {K : Type} (E : KeyEnc P kt K)

/-- Block b of w is a map that reads as f. -/
def MapF (w : World) (b : Nat) (f : K → Option Value) : Prop :=
  ∃ es clock, w.heap[b]? = some (.map es clock) ∧ (∀ x ∈ es.toList, ∃ k, x.key = E.key k) ∧ Stamped es clock ∧ ∀ k v, f k = some v ↔ ∃ x ∈ es.toList, x.key = E.key k ∧ x.val = v

theorem MapF.lt {w : World} {b : Nat} {f : K → Option Value} (h : MapF E w b f) : b < w.heap.size := by
  obtain ⟨es, c, hb, _⟩ := h
  exact (Array.getElem?_eq_some_iff.1 hb).1
theorem MapF.touch {S : Nat → Prop} {w w' : World} {b : Nat} {f : K → Option Value} (h : MapF E w b f) (ht : Touch S w w') (hs : ¬ S b) : MapF E w' b f := by
  obtain ⟨es, c, hb, r⟩ := h
  exact ⟨es, c, ht.heap hb hs, r⟩
theorem MapF.below {w w' : World} {b : Nat} {f : K → Option Value} (h : MapF E w b f) (ht : Below w.heap.size w w') : MapF E w' b f :=
  h.touch E (Touch.of_below (S := fun _ => False) ht) id
theorem MapF.made (w : World) : MapF E (w.alloc (.map #[] 0)) w.heap.size (fun _ => none) :=
  ⟨#[], 0, heap_new w _, by simp, stamped_empty 0, by simp⟩
/-- A copy's block. -/
theorem MapF.clone {w : World} {b : Nat} {f : K → Option Value} (h : MapF E w b f) : ∃ es clock, w.heap[b]? = some (.map es clock) ∧ MapF E (w.alloc (.map es clock)) w.heap.size f := by
  obtain ⟨es, c, hb, r⟩ := h
  exact ⟨es, c, hb, es, c, heap_new w _, r⟩

theorem MapF.find {w : World} {b : Nat} {f : K → Option Value} {es : Array MapEntry} {clock : Nat} (hk : ∀ x ∈ es.toList, ∃ k, x.key = E.key k) (k : K) :
    (Instr.findNow E.d (E.key k) es.toList 0 = some none ∧ ∀ x ∈ es.toList, x.key ≠ E.key k) ∨ ∃ j e, Instr.findNow E.d (E.key k) es.toList 0 = some (some (j, e.val)) ∧ es.toList[j]? = some e ∧ e.key = E.key k := by
  rcases findNow_spec (E.is k) es.toList 0 (fun x hx => by obtain ⟨k, e⟩ := hk x hx; rw [e]; exact E.is k) with h | ⟨j, e, h1, h2⟩
  · exact .inl h
  · exact .inr ⟨j, e, by simpa using h1, h2⟩

/-- 'm[k]', with or without 'ok'. -/
theorem MapF.look {w : World} {b : Nat} {f : K → Option Value} (h : MapF E w b f) {t e : TypeId} (ht : P.underlying t = some (.map kt e)) {z : Value} (hz : (zeroValue e).run P w = .ok z w) (k : K) (ok : Bool) :
    (Instr.lookup t (.map (some b)) (E.key k) ok).run P w = .ok (if ok then .tuple #[(f k).getD z, .bool (f k).isSome] else (f k).getD z) w := by
  obtain ⟨es, c, hb, hk, hp, hf⟩ := h
  rcases MapF.find (f := f) (w := w) (b := b) (clock := c) E hk k with ⟨h1, h2⟩ | ⟨j, x, h1, h2, h3⟩
  · have hn : f k = none := by
      cases e : f k with
      | none => rfl
      | some v =>
        obtain ⟨x, hx, h3, _⟩ := (hf k v).1 e
        exact absurd h3 (h2 x hx)
    simp [Instr.lookup, run_underlying ht, MapKept.run_getObj_map hb, run_checkKey E.hd (E.is k), run_findKey E.hd h1, hz, hn, Result.andThen]
  · have hn : f k = some x.val := (hf k _).2 ⟨x, List.mem_of_getElem? h2, h3, rfl⟩
    simp [Instr.lookup, run_underlying ht, MapKept.run_getObj_map hb, run_checkKey E.hd (E.is k), run_findKey E.hd h1, hn, Result.andThen]

variable [DecidableEq K]
def fput (f : K → Option Value) (k : K) (v : Value) : K → Option Value := fun j => if j = k then some v else f j
def fdel (f : K → Option Value) (k : K) : K → Option Value := fun j => if j = k then none else f j

omit [DecidableEq K] in
theorem touch_setBlock {w : World} {b : Nat} {es : Array MapEntry} {c : Nat} (hb : w.heap[b]? = some (.map es c)) (o : Obj) : Touch (fun k => k = b) w (setBlock w b o) :=
  ⟨rfl, rfl, rfl, by simp [setBlock], fun k _ hs => heap_setBlock_other hb o hs⟩

theorem MapF.store {w : World} {b : Nat} {f : K → Option Value} (h : MapF E w b f) {t e : TypeId} (ht : P.underlying t = some (.map kt e)) (k : K) (v : Value) :
    ∃ w', (Instr.mapUpdate t (.map (some b)) (E.key k) v).run P w = .ok () w' ∧ MapF E w' b (fput f k v) ∧ Touch (fun k => k = b) w w' := by
  obtain ⟨es, c, hb, hk, hp, hf⟩ := h
  rcases MapF.find (f := f) (w := w) (b := b) (clock := c) E hk k with ⟨h1, h2⟩ | ⟨j, x, h1, h2, h3⟩
  · refine ⟨setBlock w b (.map (es.push ⟨E.key k, v, c⟩) (c + 1)), ?_, ⟨_, _, heap_setBlock_same hb _, ?_, ?_, ?_⟩, touch_setBlock hb _⟩
    · simp [Instr.mapUpdate, run_underlying ht, MapKept.run_getObj_map hb, run_checkKey E.hd (E.is k), run_findKey E.hd h1, MapKept.run_setObj_map _ hb, Result.andThen, setBlock]
    · intro x hx
      simp only [Array.toList_push, List.mem_append, List.mem_singleton] at hx
      rcases hx with hx | rfl
      · exact hk x hx
      · exact ⟨k, rfl⟩
    · exact stamped_push hp h2
    · intro k' v'
      simp only [Array.toList_push, List.mem_append, List.mem_singleton, fput]
      by_cases hkk : k' = k
      · subst hkk
        simp only [if_pos]
        constructor
        · intro e
          cases e
          exact ⟨_, .inr rfl, rfl, rfl⟩
        · rintro ⟨x, hx | rfl, h3, h4⟩
          · exact absurd h3 (h2 x hx)
          · exact congrArg some h4
      · rw [if_neg hkk, hf]
        constructor
        · rintro ⟨x, hx, h3⟩
          exact ⟨x, .inl hx, h3⟩
        · rintro ⟨x, hx | rfl, h3, h4⟩
          · exact ⟨x, hx, h3, h4⟩
          · exact absurd (E.inj _ _ h3).symm hkk
  · have hj : es[j]? = some x := by simpa using h2
    have hjl : j < es.toList.length := (List.getElem?_eq_some_iff.1 h2).1
    have hlist : (es.modify j (fun e' => { e' with key := E.key k, val := v })).toList = es.toList.set j { x with key := E.key k, val := v } := by
      rw [Array.toList_modify]
      apply List.ext_getElem?
      intro i
      rw [List.getElem?_modify, List.getElem?_set]
      by_cases hij : j = i
      · subst hij
        rw [h2, if_pos rfl, if_pos hjl]
        simp
      · rw [if_neg hij]
        simp [hij]
    have hkeys : (es.toList.set j { x with key := E.key k, val := v }).map (·.key) = es.toList.map (·.key) := by
      rw [List.map_set]
      apply List.ext_getElem?
      intro i
      rw [List.getElem?_set]
      by_cases hij : j = i
      · subst hij
        rw [if_pos rfl, if_pos (by simpa using hjl), List.getElem?_map, h2, Option.map_some, h3]
      · rw [if_neg hij]
    refine ⟨setBlock w b (.map (es.modify j (fun e' => { e' with key := E.key k, val := v })) c), ?_, ⟨_, _, heap_setBlock_same hb _, ?_, ?_, ?_⟩, touch_setBlock hb _⟩
    · simp [Instr.mapUpdate, run_underlying ht, MapKept.run_getObj_map hb, run_checkKey E.hd (E.is k), run_findKey E.hd h1, hj, h3, run_keyThatStays (E.is k), MapKept.run_setObj_map _ hb, Result.andThen, setBlock]
    · rw [hlist]
      intro y hy
      have : y.key ∈ (es.toList.set j { x with key := E.key k, val := v }).map (·.key) := List.mem_map_of_mem hy
      rw [hkeys] at this
      obtain ⟨y', hy', e⟩ := List.mem_map.1 this
      rw [← e]
      exact hk y' hy'
    · exact stamped_modify hp _ _ (fun _ _ => rfl) (fun e' _ he' => by rw [hj] at he'; cases he'; exact h3.symm)
    · intro k' v'
      rw [hlist]
      have huniq : ∀ i (hi : i < es.toList.length), es.toList[i].key = E.key k → i = j := by
        intro i hi e
        have hx : es.toList[j] = x := by rw [List.getElem?_eq_getElem hjl] at h2; exact Option.some.inj h2
        rcases Nat.lt_trichotomy i j with hlt | heq | hgt
        · exact absurd (by rw [e, hx, h3]) (List.pairwise_iff_getElem.1 ((stamped_iff _ _).1 hp).2.2 i j hi hjl hlt)
        · exact heq
        · exact absurd (by rw [e, hx, h3]) (List.pairwise_iff_getElem.1 ((stamped_iff _ _).1 hp).2.2 j i hjl hi hgt)
      unfold fput
      by_cases hkk : k' = k
      · subst hkk
        simp only [if_pos]
        constructor
        · intro e
          cases e
          exact ⟨{ x with key := E.key k', val := v }, List.mem_of_getElem? (by rw [List.getElem?_set, if_pos rfl, if_pos hjl]), rfl, rfl⟩
        · rintro ⟨y, hy, h4, h5⟩
          obtain ⟨i, hi, ey⟩ := List.getElem_of_mem hy
          rw [List.getElem_set] at ey
          by_cases hij : j = i
          · rw [if_pos hij] at ey
            rw [← h5, ← ey]
          · rw [if_neg hij] at ey
            have hi' : i < es.toList.length := by simpa using hi
            exact absurd (huniq i hi' (by rw [ey, h4])).symm hij
      · rw [if_neg hkk, hf]
        constructor
        · rintro ⟨y, hy, h4, h5⟩
          obtain ⟨i, hi, ey⟩ := List.getElem_of_mem hy
          have hij : j ≠ i := by
            rintro rfl
            rw [List.getElem?_eq_getElem hjl] at h2
            have : y = x := by rw [← ey]; exact Option.some.inj h2
            rw [this, h3] at h4
            exact hkk (E.inj _ _ h4).symm
          exact ⟨y, List.mem_of_getElem? (i := i) (by rw [List.getElem?_set, if_neg hij, List.getElem?_eq_getElem hi, ey]), h4, h5⟩
        · rintro ⟨y, hy, h4, h5⟩
          obtain ⟨i, hi, ey⟩ := List.getElem_of_mem hy
          rw [List.getElem_set] at ey
          by_cases hij : j = i
          · rw [if_pos hij] at ey
            rw [← ey] at h4
            exact absurd (E.inj _ _ h4).symm hkk
          · rw [if_neg hij] at ey
            exact ⟨y, by rw [← ey]; exact List.getElem_mem _, h4, h5⟩

theorem MapF.drop {w : World} {b : Nat} {f : K → Option Value} (h : MapF E w b f) {t e : TypeId} (ht : P.underlying t = some (.map kt e)) (k : K) (ty : TypeId) :
    ∃ w', (Builtin.delete_ #[t, kt] ty #[.map (some b), E.key k]).run P w = .ok (.tuple #[]) w' ∧ MapF E w' b (fdel f k) ∧ Touch (fun k => k = b) w w' := by
  obtain ⟨es, c, hb, hk, hp, hf⟩ := h
  rcases MapF.find (f := f) (w := w) (b := b) (clock := c) E hk k with ⟨h1, h2⟩ | ⟨j, x, h1, h2, h3⟩
  · refine ⟨setBlock w b (.map es c), ?_, ⟨_, _, heap_setBlock_same hb _, hk, hp, ?_⟩, touch_setBlock hb _⟩
    · simp [Builtin.delete_, run_underlying ht, MapKept.run_getObj_map hb, run_checkKey E.hd (E.is k), run_findKey E.hd h1, MapKept.run_setObj_map _ hb, Result.andThen, setBlock]
    · intro k' v'
      unfold fdel
      by_cases hkk : k' = k
      · subst hkk
        simp only [if_pos]
        constructor
        · intro e; cases e
        · rintro ⟨y, hy, h4, _⟩
          exact absurd h4 (h2 y hy)
      · rw [if_neg hkk, hf]
  · have hj : es[j]? = some x := by simpa using h2
    have hjl : j < es.toList.length := (List.getElem?_eq_some_iff.1 h2).1
    have hjs : j < es.size := by simpa using hjl
    have hlist : (es.eraseIdxIfInBounds j).toList = es.toList.eraseIdx j := by
      unfold Array.eraseIdxIfInBounds
      rw [dif_pos hjs, Array.toList_eraseIdx]
    refine ⟨setBlock w b (.map (es.eraseIdxIfInBounds j) c), ?_, ⟨_, _, heap_setBlock_same hb _, ?_, ?_, ?_⟩, touch_setBlock hb _⟩
    · simp [Builtin.delete_, run_underlying ht, MapKept.run_getObj_map hb, run_checkKey E.hd (E.is k), run_findKey E.hd h1, MapKept.run_setObj_map _ hb, Result.andThen, setBlock]
    · rw [hlist]
      intro y hy
      exact hk y ((List.eraseIdx_sublist _ _).subset hy)
    · exact stamped_erase hp _
    · intro k' v'
      rw [hlist]
      have hx : es.toList[j] = x := by rw [List.getElem?_eq_getElem hjl] at h2; exact Option.some.inj h2
      have huniq : ∀ i (hi : i < es.toList.length), es.toList[i].key = E.key k → i = j := by
        intro i hi e
        rcases Nat.lt_trichotomy i j with hlt | heq | hgt
        · exact absurd (by rw [e, hx, h3]) (List.pairwise_iff_getElem.1 ((stamped_iff _ _).1 hp).2.2 i j hi hjl hlt)
        · exact heq
        · exact absurd (by rw [e, hx, h3]) (List.pairwise_iff_getElem.1 ((stamped_iff _ _).1 hp).2.2 j i hjl hi hgt)
      unfold fdel
      by_cases hkk : k' = k
      · subst hkk
        simp only [if_pos]
        constructor
        · intro e; cases e
        · rintro ⟨y, hy, h4, _⟩
          obtain ⟨i, hne, hi⟩ := List.mem_eraseIdx_iff_getElem?.1 hy
          obtain ⟨hil, hiy⟩ := List.getElem?_eq_some_iff.1 hi
          exact absurd (huniq i hil (by rw [hiy, h4])) hne
      · rw [if_neg hkk, hf]
        constructor
        · rintro ⟨y, hy, h4, h5⟩
          obtain ⟨i, hi, ey⟩ := List.getElem_of_mem hy
          refine ⟨y, List.mem_eraseIdx_iff_getElem?.2 ⟨i, ?_, by rw [List.getElem?_eq_getElem hi, ey]⟩, h4, h5⟩
          rintro rfl
          rw [← ey, hx, h3] at h4
          exact hkk (E.inj _ _ h4).symm
        · rintro ⟨y, hy, h4, h5⟩
          exact ⟨y, (List.eraseIdx_sublist _ _).subset hy, h4, h5⟩

/-- Block b of w is a map that reads as f; the entry of k bears the stamp n. -/
def MapE (w : World) (b : Nat) (f : K → Option Value) (k : K) (n : Nat) : Prop :=
  ∃ es clock, w.heap[b]? = some (.map es clock) ∧ (∀ x ∈ es.toList, ∃ k, x.key = E.key k) ∧ Stamped es clock ∧ (∀ k v, f k = some v ↔ ∃ x ∈ es.toList, x.key = E.key k ∧ x.val = v) ∧ ∃ (j : Nat) (x : MapEntry), es.toList[j]? = some x ∧ x.key = E.key k ∧ x.born = n

theorem MapF.entry {w : World} {b : Nat} {f : K → Option Value} (h : MapF E w b f) {t e : TypeId} (ht : P.underlying t = some (.map kt e)) {z : Value} (hz : ∀ w, (zeroValue e).run P w = .ok z w) (k : K) (hn : f k = none) :
    ∃ w' n, (Instr.mapEntry t (.map (some b)) (E.key k)).run P w = .ok (.tuple #[z, .int .i64 (n : Nat)]) w' ∧ MapE E w' b (fput f k z) k n ∧ Touch (fun k => k = b) w w' := by
  obtain ⟨es, c, hb, hk, hp, hf⟩ := h
  rcases MapF.find (f := f) (w := w) (b := b) (clock := c) E hk k with ⟨h1, h2⟩ | ⟨j, x, h1, h2, h3⟩
  · refine ⟨setBlock w b (.map (es.push ⟨E.key k, z, c⟩) (c + 1)), c, ?_, ⟨_, _, heap_setBlock_same hb _, ?_, stamped_push hp h2, ?_, es.toList.length, ⟨E.key k, z, c⟩, by simp, rfl, rfl⟩, touch_setBlock hb _⟩
    · simp [Instr.mapEntry, run_underlying ht, MapKept.run_getObj_map hb, run_checkKey E.hd (E.is k), run_findKey E.hd h1, MapKept.run_setObj_map _ hb, Result.andThen, setBlock, hz, goInt]
    · intro x hx
      simp only [Array.toList_push, List.mem_append, List.mem_singleton] at hx
      rcases hx with hx | rfl
      · exact hk x hx
      · exact ⟨k, rfl⟩
    · intro k' v'
      simp only [Array.toList_push, List.mem_append, List.mem_singleton, fput]
      by_cases hkk : k' = k
      · subst hkk
        simp only [if_pos]
        constructor
        · intro e
          cases e
          exact ⟨_, .inr rfl, rfl, rfl⟩
        · rintro ⟨x, hx | rfl, h3, h4⟩
          · exact absurd h3 (h2 x hx)
          · exact congrArg some h4
      · rw [if_neg hkk, hf]
        constructor
        · rintro ⟨x, hx, h3⟩
          exact ⟨x, .inl hx, h3⟩
        · rintro ⟨x, hx | rfl, h3, h4⟩
          · exact ⟨x, hx, h3, h4⟩
          · exact absurd (E.inj _ _ h3).symm hkk
  · have := (hf k _).2 ⟨x, List.mem_of_getElem? h2, h3, rfl⟩
    rw [hn] at this
    cases this

theorem MapE.store {w : World} {b n : Nat} {f : K → Option Value} {k : K} (h : MapE E w b f k n) (t : TypeId) (v : Value) :
    ∃ w', (Instr.entryStore t (.map (some b)) (.int .i64 (n : Nat)) v).run P w = .ok () w' ∧ MapF E w' b (fput f k v) ∧ Touch (fun k => k = b) w w' := by
  obtain ⟨es, c, hb, hk, hp, hf, j, x, hj, hxk, hxn⟩ := h
  have hjl : j < es.toList.length := (List.getElem?_eq_some_iff.1 hj).1
  have hxj : es.toList[j] = x := by rw [List.getElem?_eq_getElem hjl] at hj; exact Option.some.inj hj
  have hnod := hp.2.1
  have hfind : es.findIdx? (fun e => (e.born : Int) == (n : Int)) = some j := by
    rw [Array.findIdx?_eq_some_iff_getElem]
    have hxj' : es[j]'(by simpa using hjl) = x := by simpa using hxj
    refine ⟨by simpa using hjl, by rw [hxj', hxn]; simp, fun i hi => ?_⟩
    have hil : i < es.toList.length := by omega
    have := List.pairwise_iff_getElem.1 (List.pairwise_map.1 hnod) i j hil hjl hi
    rw [hxj, hxn, Array.getElem_toList] at this
    rw [Bool.not_eq_true, beq_eq_false_iff_ne]
    intro e
    exact this (by omega)
  have hlist : (es.modify j (fun e' => { e' with val := v })).toList = es.toList.set j { x with val := v } := by
    rw [Array.toList_modify]
    apply List.ext_getElem?
    intro i
    rw [List.getElem?_modify, List.getElem?_set]
    by_cases hij : j = i
    · subst hij
      rw [hj, if_pos rfl, if_pos hjl]
      simp
    · rw [if_neg hij]
      simp [hij]
  have huniq : ∀ i (hi : i < es.toList.length), es.toList[i].key = E.key k → i = j := by
    intro i hi e
    rcases Nat.lt_trichotomy i j with hlt | heq | hgt
    · exact absurd (by rw [e, hxj, hxk]) (List.pairwise_iff_getElem.1 ((stamped_iff _ _).1 hp).2.2 i j hi hjl hlt)
    · exact heq
    · exact absurd (by rw [e, hxj, hxk]) (List.pairwise_iff_getElem.1 ((stamped_iff _ _).1 hp).2.2 j i hjl hi hgt)
  refine ⟨setBlock w b (.map (es.modify j (fun e' => { e' with val := v })) c), ?_, ⟨_, _, heap_setBlock_same hb _, ?_, stamped_modify hp _ _ (fun _ _ => rfl) (fun _ _ _ => rfl), ?_⟩, touch_setBlock hb _⟩
  · simp [Instr.entryStore, MapKept.run_getObj_map hb, MapKept.run_setObj_map _ hb, Result.andThen, setBlock, asInt, asIntOf, hfind]
  · rw [hlist]
    intro y hy
    obtain ⟨i, hi, ey⟩ := List.getElem_of_mem hy
    rw [List.getElem_set] at ey
    by_cases hij : j = i
    · rw [if_pos hij] at ey
      exact ⟨k, by rw [← ey]; exact hxk⟩
    · rw [if_neg hij] at ey
      exact hk y (by rw [← ey]; exact List.getElem_mem _)
  · intro k' v'
    rw [hlist]
    unfold fput
    by_cases hkk : k' = k
    · subst hkk
      simp only [if_pos]
      constructor
      · intro e
        cases e
        exact ⟨{ x with val := v }, List.mem_of_getElem? (by rw [List.getElem?_set, if_pos rfl, if_pos hjl]), hxk, rfl⟩
      · rintro ⟨y, hy, h4, h5⟩
        obtain ⟨i, hi, ey⟩ := List.getElem_of_mem hy
        rw [List.getElem_set] at ey
        by_cases hij : j = i
        · rw [if_pos hij] at ey
          rw [← h5, ← ey]
        · rw [if_neg hij] at ey
          have hi' : i < es.toList.length := by simpa using hi
          exact absurd (huniq i hi' (by rw [ey, h4])).symm hij
    · rw [if_neg hkk, hf]
      constructor
      · rintro ⟨y, hy, h4, h5⟩
        obtain ⟨i, hi, ey⟩ := List.getElem_of_mem hy
        have hij : j ≠ i := by
          rintro rfl
          have : y = x := by rw [← ey, hxj]
          rw [this, hxk] at h4
          exact hkk (E.inj _ _ h4).symm
        exact ⟨y, List.mem_of_getElem? (i := i) (by rw [List.getElem?_set, if_neg hij, List.getElem?_eq_getElem hi, ey]), h4, h5⟩
      · rintro ⟨y, hy, h4, h5⟩
        obtain ⟨i, hi, ey⟩ := List.getElem_of_mem hy
        rw [List.getElem_set] at ey
        by_cases hij : j = i
        · rw [if_pos hij] at ey
          rw [← ey] at h4
          exact absurd (E.inj _ _ (h4.symm.trans hxk)) hkk
        · rw [if_neg hij] at ey
          exact ⟨y, by rw [← ey]; exact List.getElem_mem _, h4, h5⟩

theorem fput_fput (f : K → Option Value) (k : K) (u v : Value) : fput (fput f k u) k v = fput f k v := by
  funext j
  unfold fput
  split <;> rfl

/-! ### at the operation -/
omit [DecidableEq K] in
theorem wp_lookup_f {w : World} {o : Oper} {a : Act} {K' : Act → World → Prop} {Q : Exit → Act → World → Prop}
    (m x : Operand) (t : TypeId) (ok : Bool) (hop : o.op = Op.lookup t m x ok) (e : TypeId) (ht : P.underlying t = some (.map kt e)) {z : Value} (hz : (zeroValue e).run P w = .ok z w) (b : Nat) (f : K → Option Value)
    (hm : a.eval m = .map (some b)) (hown : MapF E w b f) (k : K) (hx : a.eval x = E.key k)
    (hK : K' (a.put o.dst (if ok then .tuple #[(f k).getD z, .bool (f k).isSome] else (f k).getD z)) w) : o.wp P a w K' Q := by
  have hrun := hown.look E ht hz k ok
  unfold Oper.wp
  simp only [execOp, hop, hm, hx]
  simp [hrun, Result.andThen]
  exact hK
omit [DecidableEq K] in
theorem wpList_lookup_f {w : World} {ops : Array Oper} {rest : List Oper} {o : Oper} {a : Act} {Q : Exit → Act → World → Prop} (hg : o.guard = none)
    (m x : Operand) (t : TypeId) (ok : Bool) (hop : o.op = Op.lookup t m x ok) (e : TypeId) (ht : P.underlying t = some (.map kt e)) {z : Value} (hz : (zeroValue e).run P w = .ok z w) (b : Nat) (f : K → Option Value)
    (hm : a.eval m = .map (some b)) (hown : MapF E w b f) (k : K) (hx : a.eval x = E.key k)
    (hK : wpList P ops Q rest (a.put o.dst (if ok then .tuple #[(f k).getD z, .bool (f k).isSome] else (f k).getD z)) w) : wpList P ops Q (o :: rest) a w :=
  wpList_plain hg fun K' hK' => wp_lookup_f E m x t ok hop e ht hz b f hm hown k hx (hK' _ _ hK)

theorem wp_store_f {w : World} {o : Oper} {a : Act} {K' : Act → World → Prop} {Q : Exit → Act → World → Prop}
    (m x v : Operand) (t : TypeId) (hop : o.op = Op.mapUpdate t m x v) (e : TypeId) (ht : P.underlying t = some (.map kt e)) (b : Nat) (f : K → Option Value)
    (hm : a.eval m = .map (some b)) (hown : MapF E w b f) (k : K) (val : Value) (hx : a.eval x = E.key k) (hv : a.eval v = val)
    (hK : ∀ w', MapF E w' b (fput f k val) → Touch (fun k => k = b) w w' → K' (a.put o.dst undef) w') : o.wp P a w K' Q := by
  obtain ⟨w', hrun, h1, h2⟩ := hown.store E ht k val
  unfold Oper.wp
  simp [execOp, hop, hm, hx, hv, hrun, Result.andThen]
  exact hK w' h1 h2
theorem wpList_store_f {w : World} {ops : Array Oper} {rest : List Oper} {o : Oper} {a : Act} {Q : Exit → Act → World → Prop} (hg : o.guard = none)
    (m x v : Operand) (t : TypeId) (hop : o.op = Op.mapUpdate t m x v) (e : TypeId) (ht : P.underlying t = some (.map kt e)) (b : Nat) (f : K → Option Value)
    (hm : a.eval m = .map (some b)) (hown : MapF E w b f) (k : K) (val : Value) (hx : a.eval x = E.key k) (hv : a.eval v = val)
    (hK : ∀ w', MapF E w' b (fput f k val) → Touch (fun k => k = b) w w' → wpList P ops Q rest (a.put o.dst undef) w') : wpList P ops Q (o :: rest) a w :=
  wpList_plain hg fun K' hK' => wp_store_f E m x v t hop e ht b f hm hown k val hx hv fun w' h1 h2 => hK' _ _ (hK w' h1 h2)

theorem wp_delete_f {w : World} {o : Oper} {a : Act} {K' : Act → World → Prop} {Q : Exit → Act → World → Prop}
    (m x : Operand) (t : TypeId) (hop : o.op = Op.call { callee := Callee.builtin Builtin.delete, args := #[m, x], argTypes := #[t, kt] }) (e : TypeId) (ht : P.underlying t = some (.map kt e)) (b : Nat) (f : K → Option Value)
    (hm : a.eval m = .map (some b)) (hown : MapF E w b f) (k : K) (hx : a.eval x = E.key k)
    (hK : ∀ w', MapF E w' b (fdel f k) → Touch (fun k => k = b) w w' → K' (a.put o.dst (.tuple #[])) w') : o.wp P a w K' Q := by
  obtain ⟨w', hrun, h1, h2⟩ := hown.drop E ht k o.type
  unfold Oper.wp
  simp [execOp, hop, resolve, invoke, builtin, hm, hx, hrun, Result.andThen]
  exact hK w' h1 h2
theorem wpList_delete_f {w : World} {ops : Array Oper} {rest : List Oper} {o : Oper} {a : Act} {Q : Exit → Act → World → Prop} (hg : o.guard = none)
    (m x : Operand) (t : TypeId) (hop : o.op = Op.call { callee := Callee.builtin Builtin.delete, args := #[m, x], argTypes := #[t, kt] }) (e : TypeId) (ht : P.underlying t = some (.map kt e)) (b : Nat) (f : K → Option Value)
    (hm : a.eval m = .map (some b)) (hown : MapF E w b f) (k : K) (hx : a.eval x = E.key k)
    (hK : ∀ w', MapF E w' b (fdel f k) → Touch (fun k => k = b) w w' → wpList P ops Q rest (a.put o.dst (.tuple #[])) w') : wpList P ops Q (o :: rest) a w :=
  wpList_plain hg fun K' hK' => wp_delete_f E m x t hop e ht b f hm hown k hx fun w' h1 h2 => hK' _ _ (hK w' h1 h2)
end

end Go.Proofs.YthadgnaaipdpaaaGreatDoor
