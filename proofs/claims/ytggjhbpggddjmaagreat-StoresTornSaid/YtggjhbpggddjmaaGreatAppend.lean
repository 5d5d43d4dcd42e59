/- Laws of our own on append and make; no program in sight. -/
import Derived.Test.YtggjhbpggddjmaaGreatGBase
import Derived.Maps.AppendAt
import Derived.Lib.AppendZerosOnto
import Derived.Deep.AppendLies
import Derived.Deep.RegionLaw
namespace Go.Proofs.YtggjhbpggddjmaaGreat
open Go.RowKit
set_option linter.unusedVariables false

/-- A slice's type t, its elements of type e. -/
structure RowTy (P : Program) (t e : TypeId) (size bytes : Nat) (z : Value) : Prop where
  ht : P.underlying t = some (.slice e)
  info : (P.info? e).map (fun i => (i.zero, i.size, i.bytes)) = some (some z, size, bytes)
  hzs : z.cells.size = size
  pos : 0 < size

/-- The cells news lie at an address. -/
def At (w : World) (bo : Option Addr) (news : List Value) : Prop := ∀ j u, news[j]? = some u → ∃ b, bo = some b ∧ w.cell? (b.add j) = some u
theorem At.nil (w : World) (bo : Option Addr) : At w bo [] := fun j u h => by simp at h
theorem At.one (w : World) (v : Value) (e : TypeId) : At (w.alloc (.cells #[v] e)) (some ⟨w.heap.size, 0, none⟩) [v] := fun j u h => ⟨_, rfl, one_at w v e j u h⟩
theorem At.oneD (w : World) (n : Nat) (v : Value) (e : TypeId) : At ((w.alloc (.cells #[v] e)).drewN n) (some ⟨w.heap.size, 0, none⟩) [v] := fun j u h => ⟨_, rfl, one_at w v e j u h⟩
theorem addr_add (b off i : Nat) : (⟨b, off, none⟩ : Addr).add i = ⟨b, off + i, none⟩ := by
  by_cases h : i = 0
  · subst h; simp [Addr.add]
  · simp [Addr.add, h]
theorem At.of_cells {w : World} {b off : Nat} {news : List Value} (h : ∀ j (hj : j < news.length), w.cell? ⟨b, off + j, none⟩ = some news[j]) : At w (some ⟨b, off, none⟩) news := by
  intro j u hu
  obtain ⟨hj, rfl⟩ := List.getElem?_eq_some_iff.1 hu
  exact ⟨_, rfl, by rw [addr_add]; exact h j hj⟩

theorem owns_shape {w : World} {base e size n : Nat} {v : Value} {xs : List Value} (h : w.ownsRow base e size v n xs) : ∃ bo c, v = .slice bo n c := by
  rcases h.2 with ⟨rfl, rfl⟩ | ⟨g, cap, cur, rfl, _⟩
  · exact ⟨none, 0, rfl⟩
  · exact ⟨_, _, rfl⟩

theorem run_append_any {P : Program} {t e : TypeId} {size bytes : Nat} {z : Value} (T : RowTy P t e size bytes z) (w : World) (base : Nat) (ty : TypeId) (v : Value) (n : Nat) (xs : List Value) (hown : w.ownsRow base e size v n xs)
    (bo : Option Addr) (m c : Nat) (news : List Value) (hl : news.length = m * size) (hat : At w bo news) (h1 : ∀ u ∈ news, u.oneCell' = true)
    (h63 : n + m ≤ maxLen) (hbytes : (n + m) * bytes ≤ 140737488355328) (hbase : base ≤ w.heap.size) :
    ∃ v' w', (Builtin.append_ #[t, t] ty #[v, .slice bo m c]).run P w = .ok v' w' ∧ w'.ownsRow base e size v' (n + m) (xs ++ news) ∧ w.grownBy w' v.ownBlock ∧ (v'.ownBlock = v.ownBlock ∨ v'.ownBlock = some w.heap.size) := by
  obtain ⟨i, hi, hz, hs, hb⟩ := info_parts T.info
  cases bo with
  | some ad =>
    obtain ⟨v', w', h2, h3, h4, _, h6⟩ := run_append_own_at (P := P) w base t ty e i z size bytes T.ht hi hz hs hb T.hzs T.pos v n xs hown ad m c news hl (fun j u h => by obtain ⟨b, hb, hc⟩ := hat j u h; cases hb; exact hc) h1 h63 hbytes hbase
    exact ⟨v', w', h2, h3, h4, h6⟩
  | none =>
    have hnews : news = [] := by
      cases news with
      | nil => rfl
      | cons u us => obtain ⟨b, hb, _⟩ := hat 0 u rfl; cases hb
    subst hnews
    have hm : m = 0 := by
      have hp := T.pos
      rcases Nat.eq_zero_or_pos m with h | h
      · exact h
      · have := Nat.mul_pos h hp; simp at hl; omega
    subst hm
    refine ⟨v, w, ?_, by simpa using hown, ⟨rfl, rfl, rfl, Nat.le_refl _, fun _ _ _ => rfl⟩, .inl rfl⟩
    have ht := T.ht
    rcases hown.2 with ⟨rfl, rfl⟩ | ⟨g, cap, cur, rfl, _, _, hnc, _, _, _⟩
    · simp [Builtin.append_, run_underlying ht, sizeOf, typeInfo, hi, Builtin.lenOf, Builtin.firstCells]
    · simp [Builtin.append_, run_underlying ht, sizeOf, typeInfo, hi, Builtin.lenOf, Builtin.firstCells, hnc, storeCells]

theorem wp_append_any {P : Program} {t e : TypeId} {size bytes : Nat} {z : Value} (T : RowTy P t e size bytes z) (w : World) {o : Oper} {a : Act} {K : Act → World → Prop} {Q : Exit → Act → World → Prop} (s x : Operand)
    (ho : o.op = .call { callee := .builtin .append, args := #[s, x], argTypes := #[t, t] })
    (base : Nat) (v : Value) (n : Nat) (xs : List Value) (hs : a.eval s = v) (hown : w.ownsRow base e size v n xs)
    (bo : Option Addr) (m c : Nat) (news : List Value) (hx : a.eval x = .slice bo m c) (hl : news.length = m * size) (hat : At w bo news) (h1 : ∀ u ∈ news, u.oneCell' = true)
    (h63 : n + m ≤ maxLen) (hbytes : (n + m) * bytes ≤ 140737488355328) (hbase : base ≤ w.heap.size)
    (h : ∀ b' c' w', w'.ownsRow base e size (.slice b' (n + m) c') (n + m) (xs ++ news) → w.grownBy w' v.ownBlock → ((Value.slice b' (n + m) c').ownBlock = v.ownBlock ∨ (Value.slice b' (n + m) c').ownBlock = some w.heap.size) → K (a.put o.dst (.slice b' (n + m) c')) w') : o.wp P a w K Q := by
  obtain ⟨v', w', hr, h2, h3, h4⟩ := run_append_any T w base o.type v n xs hown bo m c news hl hat h1 h63 hbytes hbase
  unfold Oper.wp execOp
  simp only [ho, resolve, invoke, builtin, Sem.run_bind, Sem.run_pure, Result.andThen_ok, List.map_toArray, List.map_cons, List.map_nil, hs, hx, hr]
  obtain ⟨b', c', rfl⟩ := owns_shape h2
  exact h b' c' w' h2 h3 h4

theorem wpList_append_any {P : Program} {t e : TypeId} {size bytes : Nat} {z : Value} (T : RowTy P t e size bytes z) {w : World} {ops : Array Oper} {rest : List Oper} {o : Oper} {a : Act} {Q : Exit → Act → World → Prop} (hgd : o.guard = none) (s x : Operand)
    (ho : o.op = .call { callee := .builtin .append, args := #[s, x], argTypes := #[t, t] })
    (base : Nat) (v : Value) (n : Nat) (xs : List Value) (hs : a.eval s = v) (hown : w.ownsRow base e size v n xs)
    (bo : Option Addr) (m c : Nat) (news : List Value) (hx : a.eval x = .slice bo m c) (hl : news.length = m * size) (hat : At w bo news) (h1 : ∀ u ∈ news, u.oneCell' = true)
    (h63 : n + m ≤ maxLen) (hbytes : (n + m) * bytes ≤ 140737488355328) (hbase : base ≤ w.heap.size)
    (h : ∀ b' c' w', w'.ownsRow base e size (.slice b' (n + m) c') (n + m) (xs ++ news) → w.grownBy w' v.ownBlock → ((Value.slice b' (n + m) c').ownBlock = v.ownBlock ∨ (Value.slice b' (n + m) c').ownBlock = some w.heap.size) → wpList P ops Q rest (a.put o.dst (.slice b' (n + m) c')) w') : wpList P ops Q (o :: rest) a w :=
  wpList_plain hgd fun _ hK => wp_append_any T w s x ho base v n xs hs hown bo m c news hx hl hat h1 h63 hbytes hbase fun b' c' w' h2 h3 h4 => hK _ _ (h b' c' w' h2 h3 h4)

theorem step_append_any {P : Program} {t e : TypeId} {size bytes : Nat} {z : Value} (T : RowTy P t e size bytes z) {w : World} {ops : Array Oper} {o : Oper} {a : Act} {K : Act → World → Prop} {Q : Exit → Act → World → Prop} {E : Prop} (hgd : o.guard = none) (s x : Operand)
    (ho : o.op = .call { callee := .builtin .append, args := #[s, x], argTypes := #[t, t] })
    (base : Nat) (v : Value) (n : Nat) (xs : List Value) (hs : a.eval s = v) (hown : w.ownsRow base e size v n xs)
    (bo : Option Addr) (m c : Nat) (news : List Value) (hx : a.eval x = .slice bo m c) (hl : news.length = m * size) (hat : At w bo news) (h1 : ∀ u ∈ news, u.oneCell' = true)
    (h63 : n + m ≤ maxLen) (hbytes : (n + m) * bytes ≤ 140737488355328) (hbase : base ≤ w.heap.size)
    (h : ∀ b' c' w', w'.ownsRow base e size (.slice b' (n + m) c') (n + m) (xs ++ news) → w.grownBy w' v.ownBlock → ((Value.slice b' (n + m) c').ownBlock = v.ownBlock ∨ (Value.slice b' (n + m) c').ownBlock = some w.heap.size) → K (a.put o.dst (.slice b' (n + m) c')) w') :
    if Region.wanted o (yielded ops a.tmps) = true then Oper.wp P o a w K Q else E := by
  have hw : Region.wanted o (yielded ops a.tmps) = true := by simp [Region.wanted, hgd]
  rw [if_pos hw]
  exact wp_append_any T w s x ho base v n xs hs hown bo m c news hx hl hat h1 h63 hbytes hbase h

/-- append-of-make: k zero values behind what is owned. -/
theorem zeroCells_list (z : Value) (k : Nat) (hz : z.cells = #[z]) : (Builtin.zeroCells z.cells k).toList = List.replicate k z := by
  rw [hz]
  unfold Builtin.zeroCells
  apply List.ext_getElem
  · simp
  · intro i h1 h2
    simp [Nat.mod_one]

theorem run_append_zeros_any {P : Program} {t e : TypeId} {bytes : Nat} {z : Value} (T : RowTy P t e 1 bytes z) (hzc : z.cells = #[z]) (h1z : z.oneCell' = true) (w : World) (base : Nat) (tn ty : TypeId) (kq kn : IntKind) (htn : P.underlying tn = some (.int kn)) (v : Value) (n : Nat) (xs : List Value) (hown : w.ownsRow base e 1 v n xs)
    (k : Nat) (h63 : n + k ≤ maxLen) (hbytes : (n + k) * bytes ≤ 140737488355328) (hbase : base ≤ w.heap.size) :
    ∃ v' w', (Builtin.append_ #[t, tn] ty #[v, .int kq k]).run P w = .ok v' w' ∧ w'.ownsRow base e 1 v' (n + k) (xs ++ List.replicate k z) ∧ w.grownBy w' v.ownBlock ∧ (v'.ownBlock = v.ownBlock ∨ v'.ownBlock = some w.heap.size) := by
  obtain ⟨i, hi, hz, hs, hb⟩ := info_parts T.info
  have ht := T.ht
  have hsmall : n + k ≤ 9223372036854775807 := by simp only [maxLen] at h63; omega
  have hw : IntKind.i64.wrap (k : Int) = k := by rw [IntKind.wrap_i64]; omega
  have hneg : ¬ ((k : Int) < 0) := by omega
  have hkb : k * bytes ≤ 140737488355328 := Nat.le_trans (Nat.mul_le_mul_right _ (by omega)) hbytes
  have h48i : ¬ (281474976710656 < (k : Int) * (i.bytes : Int)) := by
    rw [← Int.natCast_mul, hb]; omega
  have hzl := zeroCells_list z k hzc
  have hlen : (xs ++ List.replicate k z).length = (n + k) * 1 := by rw [List.length_append, hown.1, List.length_replicate]; omega
  have h1all : ∀ u ∈ List.replicate k z, u.oneCell' = true := fun u hu => by rw [List.eq_of_mem_replicate hu]; exact h1z
  have grown : ∀ (old : Nat), old < n + k → ∀ (row : Option Nat),
      (w.drew.alloc (.cells (xs.toArray ++ Builtin.zeroCells z.cells k ++ Builtin.zeroCells z.cells (grownCap w (n + k) old e - (n + k))) e)).ownsRow base e 1
        (.slice (some ⟨w.heap.size, 0, none⟩) (n + k) (grownCap w (n + k) old e)) (n + k) (xs ++ List.replicate k z) ∧
      w.grownBy (w.drew.alloc (.cells (xs.toArray ++ Builtin.zeroCells z.cells k ++ Builtin.zeroCells z.cells (grownCap w (n + k) old e - (n + k))) e)) row := by
    intro old ho row
    have hge := grownCap_ge w (n + k) old e
    have hcm : grownCap w (n + k) old e ≤ maxLen := grownCap_le_maxLen w (n + k) old e h63
    refine ⟨⟨hlen, .inr ⟨w.heap.size, _, _, rfl, hbase, heap_alloc_new w.drew _, hge, hcm, ?_, ?_⟩⟩, ⟨rfl, rfl, rfl, by simp, fun j hj _ => heap_alloc_old w.drew _ hj⟩⟩
    · have := hown.1
      simp only [Array.size_append, List.size_toArray, size_zeroCells, hzc]
      simp
      omega
    · simp only [Array.toList_append, List.append_assoc, hzl]
      rw [← List.append_assoc, ← hlen]
      exact List.take_left
  rcases hown.2 with ⟨rfl, rfl⟩ | ⟨g, cap, cur, rfl, hbg, hg, hnc, hcm, hcs, htake⟩
  · have hx : xs = [] := List.eq_nil_of_length_eq_zero (by simpa using hown.1)
    subst hx
    rcases Nat.eq_zero_or_pos k with rfl | hk
    · refine ⟨.slice none 0 0, w, ?_, by simpa using World.ownsRow_nil w base e 1, ⟨rfl, rfl, rfl, Nat.le_refl _, fun _ _ _ => rfl⟩, .inl rfl⟩
      have hw0 : IntKind.i64.wrap 0 = 0 := by decide
      simp [Builtin.append_, run_underlying ht, run_underlying htn, sizeOf, typeInfo, hi, asInt, asIntOf, hw0]
    · have hr := Lib.run_append_nil_zeros (P := P) w t tn ty e i z kq kn ht htn hi hz k hk (by omega) (by omega) (by rw [hb]; omega)
      have hgr := grown 0 (by omega) none
      simp only [Nat.zero_add, List.nil_append, Array.empty_append] at hgr ⊢
      exact ⟨_, _, hr, hgr.1, hgr.2, .inr rfl⟩
  · by_cases hroom : n + k ≤ cap
    · have hfit : n * i.size + (List.replicate k z).length ≤ cur.size := by rw [List.length_replicate, hcs, hs]; omega
      have hst := run_storeCells_at P g (n * i.size) e (List.replicate k z) 0 cur w hg (by simpa using hfit) h1all
      simp only [Nat.add_zero] at hst
      have hr : (Builtin.append_ #[t, tn] ty #[.slice (some ⟨g, 0, none⟩) n cap, .int kq k]).run P w = .ok (.slice (some ⟨g, 0, none⟩) (n + k) cap) (w.setRow g (cur.toList.take (n * i.size) ++ List.replicate k z ++ cur.toList.drop (n * i.size + (List.replicate k z).length)).toArray) := by
        rcases Nat.eq_zero_or_pos k with rfl | hk
        · have hw0 : IntKind.i64.wrap 0 = 0 := by decide
          simp [Builtin.append_, run_underlying ht, run_underlying htn, sizeOf, typeInfo, hi, asInt, asIntOf, hw0, hnc, storeCells, Addr.add_lit]
          rw [setRow_self w g cur e (0, 0) hg]
        · have hk0 : ¬ (k = 0) := by omega
          simp [Builtin.append_, run_underlying ht, run_underlying htn, sizeOf, typeInfo, zeroValue, hi, hz, hs, asInt, asIntOf, hw, hneg, h48i, hroom, hk0, hzl, Addr.add_lit] at hst ⊢
          rw [hst]; rfl
      rw [hs] at hr
      refine ⟨_, _, hr, ⟨hlen, .inr ⟨g, cap, _, rfl, hbg, setRow_heap w g cur _ e _ hg, hroom, hcm, ?_, ?_⟩⟩, ⟨rfl, rfl, rfl, by simp, fun k _ hk => setRow_other w g k _ (fun e => hk (by simp [Value.ownBlock, e]))⟩, .inl rfl⟩
      · simp only [List.size_toArray, List.length_append, List.length_take, List.length_drop, Array.length_toList, List.length_replicate]
        omega
      · rw [htake, ← hlen]
        exact List.take_left
    · have holds : ∀ j u, xs[j]? = some u → w.cell? ((⟨g, 0, none⟩ : Addr).add j) = some u := hown.cells (g := g) rfl
      have hold : (Builtin.firstCells i.size n (.slice (some ⟨g, 0, none⟩) n cap)).run P w.drew = .ok xs.toArray w.drew :=
        run_firstCells_some (P := P) w.drew i.size n ⟨g, 0, none⟩ n cap xs (by rw [hs]; exact hown.1) holds
      rcases Nat.eq_zero_or_pos k with rfl | hk
      · omega
      have hr := Lib.run_append_grow_zeros (P := P) w t tn ty e i z kq kn ht htn hi hz (some ⟨g, 0, none⟩) n cap xs hold k hk (by omega) (by omega) (by omega) (by rw [hb]; omega) (growslice_fits (by omega) (by rw [hb]; exact hbytes))
      have hgr := grown cap (by omega) (some g)
      exact ⟨_, _, hr, hgr.1, hgr.2, .inr rfl⟩

theorem wpList_append_zeros_any {P : Program} {t e : TypeId} {bytes : Nat} {z : Value} (T : RowTy P t e 1 bytes z) (hzc : z.cells = #[z]) (h1z : z.oneCell' = true) {w : World} {ops : Array Oper} {rest : List Oper} {o : Oper} {a : Act} {Q : Exit → Act → World → Prop} (hgd : o.guard = none) (s x : Operand) (tn : TypeId)
    (ho : o.op = .call { callee := .builtin .append, args := #[s, x], argTypes := #[t, tn] })
    (base : Nat) (kq kn : IntKind) (htn : P.underlying tn = some (.int kn)) (v : Value) (n : Nat) (xs : List Value) (hs : a.eval s = v) (hown : w.ownsRow base e 1 v n xs)
    (k : Nat) (hx : a.eval x = .int kq k) (h63 : n + k ≤ maxLen) (hbytes : (n + k) * bytes ≤ 140737488355328) (hbase : base ≤ w.heap.size)
    (h : ∀ b' c' w', w'.ownsRow base e 1 (.slice b' (n + k) c') (n + k) (xs ++ List.replicate k z) → w.grownBy w' v.ownBlock → ((Value.slice b' (n + k) c').ownBlock = v.ownBlock ∨ (Value.slice b' (n + k) c').ownBlock = some w.heap.size) → wpList P ops Q rest (a.put o.dst (.slice b' (n + k) c')) w') : wpList P ops Q (o :: rest) a w := by
  refine wpList_plain hgd fun _ hK => ?_
  obtain ⟨v', w', hr, h2, h3, h4⟩ := run_append_zeros_any T hzc h1z w base tn o.type kq kn htn v n xs hown k h63 hbytes hbase
  obtain ⟨b', c', rfl⟩ := owns_shape h2
  exact Lib.wp_append_run w s x t tn ho _ _ hs hx _ w' hr (hK _ _ (h b' c' w' h2 h3 h4))

theorem step_append_zeros_any {P : Program} {t e : TypeId} {bytes : Nat} {z : Value} (T : RowTy P t e 1 bytes z) (hzc : z.cells = #[z]) (h1z : z.oneCell' = true) {w : World} {ops : Array Oper} {o : Oper} {a : Act} {K : Act → World → Prop} {Q : Exit → Act → World → Prop} {E : Prop} (hgd : o.guard = none) (s x : Operand) (tn : TypeId)
    (ho : o.op = .call { callee := .builtin .append, args := #[s, x], argTypes := #[t, tn] })
    (base : Nat) (kq kn : IntKind) (htn : P.underlying tn = some (.int kn)) (v : Value) (n : Nat) (xs : List Value) (hs : a.eval s = v) (hown : w.ownsRow base e 1 v n xs)
    (k : Nat) (hx : a.eval x = .int kq k) (h63 : n + k ≤ maxLen) (hbytes : (n + k) * bytes ≤ 140737488355328) (hbase : base ≤ w.heap.size)
    (h : ∀ b' c' w', w'.ownsRow base e 1 (.slice b' (n + k) c') (n + k) (xs ++ List.replicate k z) → w.grownBy w' v.ownBlock → ((Value.slice b' (n + k) c').ownBlock = v.ownBlock ∨ (Value.slice b' (n + k) c').ownBlock = some w.heap.size) → K (a.put o.dst (.slice b' (n + k) c')) w') :
    if Region.wanted o (yielded ops a.tmps) = true then Oper.wp P o a w K Q else E := by
  have hw : Region.wanted o (yielded ops a.tmps) = true := by simp [Region.wanted, hgd]
  rw [if_pos hw]
  obtain ⟨v', w', hr, h2, h3, h4⟩ := run_append_zeros_any T hzc h1z w base tn o.type kq kn htn v n xs hown k h63 hbytes hbase
  obtain ⟨b', c', rfl⟩ := owns_shape h2
  exact Lib.wp_append_run w s x t tn ho _ _ hs hx _ w' hr (h b' c' w' h2 h3 h4)

/-! ### bytes -/
theorem bcells_one (l : List UInt8) : ∀ u ∈ bcells l, u.oneCell' = true := by
  intro u hu
  obtain ⟨b, _, rfl⟩ := List.mem_map.1 hu
  rfl
theorem bcells_append (a b : List UInt8) : bcells (a ++ b) = bcells a ++ bcells b := List.map_append
theorem bcells_zeros (k : Nat) : bcells (List.replicate k 0) = List.replicate k (.int .u8 0) := by unfold bcells; rw [List.map_replicate]; rfl
theorem IsB.at {w : World} {a : Option Addr} {m c : Nat} {l : List UInt8} (h : IsB w a m c l) : At w a (bcells l) := by
  obtain ⟨_, _, _, ⟨rfl, _⟩ | ⟨b, off, rfl, _, hc⟩⟩ := h
  · exact At.nil _ _
  · refine At.of_cells fun j hj => ?_
    have hj' : j < l.length := by simpa [bcells] using hj
    rw [hc j hj']
    simp [bcells]
/-- What is owned, read as bytes. -/
theorem isB_of_owns {w : World} {base e n : Nat} {a : Option Addr} {m c : Nat} {l : List UInt8} (h : w.ownsRow base e 1 (.slice a m c) n (bcells l)) (hn : n = l.length) : IsB w a m c l := by
  have hl := h.1
  rcases h.2 with ⟨hv, h0⟩ | ⟨g, cap, cur, hv, hb, hg, hnc, hcm, hcs, htk⟩
  · cases hv
    have : l = [] := List.eq_nil_of_length_eq_zero (by omega)
    subst this
    exact ⟨rfl, Nat.le_refl _, by decide, .inl ⟨rfl, fun _ => rfl⟩⟩
  · cases hv
    refine ⟨hn, by omega, hcm, .inr ⟨g, 0, rfl, ?_, fun i hi => ?_⟩⟩
    · exact (h.lt g rfl).2
    · rw [Nat.zero_add]
      exact cells_of_owns h i _ (by simp [bcells, hi])

end Go.Proofs.YtggjhbpggddjmaaGreat
