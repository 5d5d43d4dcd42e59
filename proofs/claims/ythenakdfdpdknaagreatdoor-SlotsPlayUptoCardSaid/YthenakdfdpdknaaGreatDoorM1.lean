/- Lemmas of our own on memory and bytes; no condition. -/
import Derived.Test.YthenakdfdpdknaaGreatDoorRows
import Derived.WalkKit
import Derived.WalkSpells
import Derived.WalkLawsBesides
import Derived.Lib.Hide
import Derived.Lib.SlBytesConst
import Derived.Deep.QuietTactic
import Derived.BigQuiet
import Derived.ProofKit
import Derived.OpenShut
import Derived.ChangeOld
import Derived.Below
import Derived.Maps.AppendAt
import Derived.Lib.AppendZerosOnto
import Derived.Deep.AppendLies
import Derived.Deep.RegionLaw
import Derived.Laws.CopyOwn
import Derived.Laws.EntriesVeiled
import Derived.Deep.MidRow
import Derived.Deep.RegionHeld3
namespace Go.Proofs.YthenakdfdpdknaaGreatDoor
open Go.RowKit Go.ChangeShapes Go.WideShapes Go.ChangeAt
set_option linter.unusedVariables false

theorem u8_lt (c : UInt8) : (c.toNat : Int) < 256 := by have := c.toNat_lt; omega

/-- A slice of bytes that reads as a list. -/
def IsB (w : World) (a : Option Addr) (n c : Nat) (l : List UInt8) : Prop :=
  n = l.length ∧ l.length ≤ c ∧ c ≤ maxLen ∧ ((l = [] ∧ (a = none → c = 0)) ∨ ∃ b off, a = some ⟨b, off, none⟩ ∧ b < w.heap.size ∧ ∀ i (h : i < l.length), w.cell? ⟨b, off + i, none⟩ = some (.int .u8 l[i].toNat))

theorem cell_of_block {w : World} {b : Nat} {C : Array Value} {e : TypeId} {fz : Nat × Nat} (h : w.heap[b]? = some (.cells C e fz)) (i : Nat) : w.cell? ⟨b, i, none⟩ = C[i]? := by
  simp [World.cell?, h]

theorem heap_new (w : World) (o : Obj) : (w.alloc o).heap[w.heap.size]? = some o := by
  show (w.heap.push o)[w.heap.size]? = _
  simp

theorem IsB.nil (w : World) : IsB w none 0 0 [] := ⟨rfl, Nat.le_refl _, by decide, .inl ⟨rfl, fun _ => rfl⟩⟩

/-- A fresh row of bytes reads as its list. -/
theorem IsB.fresh (w : World) (l : List UInt8) (C : Array Value) (e : TypeId) (fz : Nat × Nat) (hC : C = (l.map fun b => Value.int .u8 b.toNat).toArray) (n c : Nat) (hn : n = l.length) (hc : c = l.length) (hm : l.length ≤ maxLen) :
    IsB (w.alloc (.cells C e fz)) (some ⟨w.heap.size, 0, none⟩) n c l := by
  subst hC
  refine ⟨hn, by omega, by omega, .inr ⟨_, _, rfl, by simp, fun i h => ?_⟩⟩
  rw [cell_of_block (heap_new w _)]
  simp [h]

theorem IsB.below {w w' : World} {a : Option Addr} {n c : Nat} {l : List UInt8} (h : IsB w a n c l) (hb : Below w.heap.size w w') : IsB w' a n c l := by
  obtain ⟨h1, h2, h3, h4 | ⟨b, off, rfl, hlt, hc⟩⟩ := h
  · exact ⟨h1, h2, h3, .inl h4⟩
  · exact ⟨h1, h2, h3, .inr ⟨b, off, rfl, Nat.lt_of_lt_of_le hlt hb.size, fun i hi => (hb.cell (p := ⟨b, off + i, none⟩) hlt).trans (hc i hi)⟩⟩

/-- bytes as cells -/
def bcells (l : List UInt8) : List Value := l.map fun b => Value.int .u8 b.toNat

theorem bcells_length (l : List UInt8) : (bcells l).length = l.length := by simp [bcells]

theorem bcells_snoc (l : List UInt8) (k : Nat) (h : k < l.length) : bcells (l.take (k + 1)) = bcells (l.take k) ++ [.int .u8 l[k].toNat] := by
  unfold bcells
  rw [List.take_succ_eq_append_getElem h, List.map_append]; rfl

theorem one_at (w : World) (v : Value) (e : TypeId) : ∀ j u, [v][j]? = some u → (w.alloc (.cells #[v] e)).cell? ((⟨w.heap.size, 0, none⟩ : Addr).add j) = some u := by
  intro j u h
  match j, h with
  | 0, h => simp at h; subst h; simp [Addr.add]

theorem one_cell (v : Value) (h : v.oneCell' = true) : ∀ u ∈ [v], u.oneCell' = true := by
  intro u hu; simp at hu; subst hu; exact h

theorem cells_of_owns {w : World} {B e g n c : Nat} {xs : List Value} (h : w.ownsRow B e 1 (.slice (some ⟨g, 0, none⟩) n c) n xs) (i : Nat) (v : Value) (hv : xs[i]? = some v) : w.cell? ⟨g, i, none⟩ = some v := by
  have := h.cells (g := g) rfl i v hv
  by_cases hi : i = 0
  · subst hi; simpa [Addr.add] using this
  · simpa [Addr.add, hi] using this

theorem u8_of_int (zs : List Int) (h : ∀ n ∈ zs, (Lit.int .u8 n).wf = true) : ∃ l : List UInt8, l.length = zs.length ∧ ∀ i (hi : i < l.length), (l[i].toNat : Int) = zs.getD i 0 := by
  refine ⟨zs.map fun n => UInt8.ofNat n.toNat, by simp, fun i hi => ?_⟩
  have hi' : i < zs.length := by simpa using hi
  have hw := h zs[i] (List.getElem_mem hi')
  simp [Lit.wf, IntKind.min, IntKind.max, IntKind.signed, IntKind.bits] at hw
  simp [hi']
  omega

/-- What 'open_ints' hands over of a slice of bytes, as a list. -/
theorem isB_of_ints {W : World} {a : Option Addr} {m c : Nat} (x : Addr) (zs : List Int) (ha : a = some x) (hl : m ≤ c) (hm : c ≤ maxLen) (hz : zs.length = c)
    (hcell : ∀ i, i < zs.length → W.cell? (x.add i) = some (.int .u8 (zs.getD i 0))) (hwz : ∀ n ∈ zs, (Lit.int .u8 n).wf = true) : ∃ l, IsB W a m c l := by
  subst ha
  by_cases h0 : m = 0
  · subst h0
    exact ⟨[], rfl, Nat.zero_le _, hm, .inl ⟨rfl, fun h => by cases h⟩⟩
  obtain ⟨l, hll, hlv⟩ := u8_of_int zs hwz
  obtain ⟨b, off, spot⟩ := x
  have hc0 := hcell 0 (by omega)
  have hspot : spot = none := by simpa [Addr.add] using World.cell?_spot hc0
  subst hspot
  refine ⟨l.take m, by simp; omega, by simp; omega, hm, .inr ⟨b, off, rfl, ?_, fun i hi => ?_⟩⟩
  · have hb := hc0
    simp only [Addr.add, World.cell?] at hb
    rcases Nat.lt_or_ge b W.heap.size with h | h
    · exact h
    · simp [Array.getElem?_eq_none h] at hb
  · have him : i < m := by simp at hi; omega
    have := hcell i (by omega)
    rw [← hlv i (by omega)] at this
    by_cases hi0 : i = 0
    · subst hi0; simpa [Addr.add] using this
    · simpa [Addr.add, hi0] using this

theorem isB_nil (W : World) : IsB W none 0 0 [] := ⟨rfl, Nat.le_refl _, by decide, .inl ⟨rfl, fun _ => rfl⟩⟩

end Go.Proofs.YthenakdfdpdknaaGreatDoor

/- Laws of our own on append and make; no program in sight. -/
namespace Go.Proofs.YthenakdfdpdknaaGreatDoor
open Go.RowKit
set_option linter.unusedVariables false

/-- A slice's type t, its elements of type e. -/
structure RowTy (P : Program) (t e : TypeId) (size bytes : Nat) (z : Value) : Prop where
  ht : P.underlying t = some (.slice e)
  info : (P.info? e).map (fun i => (i.zero, i.size, i.bytes)) = some (some z, size, bytes)
  hzs : z.cells.size = size
  pos : 0 < size

/-- The cells news lie at an address. -/
def At (w : World) (bo : Option Addr) (news : List Value) : Prop := ∀ j u, news[j]? = some u → ∃ b, bo = some b ∧ w.cell? (b.add j) = some u
theorem At.nil (w : World) (bo : Option Addr) : At w bo [] := fun j u h => by simp at h
theorem At.one (w : World) (v : Value) (e : TypeId) : At (w.alloc (.cells #[v] e)) (some ⟨w.heap.size, 0, none⟩) [v] := fun j u h => ⟨_, rfl, one_at w v e j u h⟩
theorem At.oneD (w : World) (n : Nat) (v : Value) (e : TypeId) : At ((w.alloc (.cells #[v] e)).drewN n) (some ⟨w.heap.size, 0, none⟩) [v] := fun j u h => ⟨_, rfl, one_at w v e j u h⟩
theorem addr_add (b off i : Nat) : (⟨b, off, none⟩ : Addr).add i = ⟨b, off + i, none⟩ := by
  by_cases h : i = 0
  · subst h; simp [Addr.add]
  · simp [Addr.add, h]
theorem At.of_cells {w : World} {b off : Nat} {news : List Value} (h : ∀ j (hj : j < news.length), w.cell? ⟨b, off + j, none⟩ = some news[j]) : At w (some ⟨b, off, none⟩) news := by
  intro j u hu
  obtain ⟨hj, rfl⟩ := List.getElem?_eq_some_iff.1 hu
  exact ⟨_, rfl, by rw [addr_add]; exact h j hj⟩

theorem owns_shape {w : World} {base e size n : Nat} {v : Value} {xs : List Value} (h : w.ownsRow base e size v n xs) : ∃ bo c, v = .slice bo n c := by
  rcases h.2 with ⟨rfl, rfl⟩ | ⟨g, cap, cur, rfl, _⟩
  · exact ⟨none, 0, rfl⟩
  · exact ⟨_, _, rfl⟩

theorem run_append_any {P : Program} {t e : TypeId} {size bytes : Nat} {z : Value} (T : RowTy P t e size bytes z) (w : World) (base : Nat) (ty : TypeId) (v : Value) (n : Nat) (xs : List Value) (hown : w.ownsRow base e size v n xs)
    (bo : Option Addr) (m c : Nat) (news : List Value) (hl : news.length = m * size) (hat : At w bo news) (h1 : ∀ u ∈ news, u.oneCell' = true)
    (h63 : n + m ≤ maxLen) (hbytes : (n + m) * bytes ≤ 140737488355328) (hbase : base ≤ w.heap.size) :
    ∃ v' w', (Builtin.append_ #[t, t] ty #[v, .slice bo m c]).run P w = .ok v' w' ∧ w'.ownsRow base e size v' (n + m) (xs ++ news) ∧ w.grownBy w' v.ownBlock ∧ (v'.ownBlock = v.ownBlock ∨ v'.ownBlock = some w.heap.size) := by
  obtain ⟨i, hi, hz, hs, hb⟩ := info_parts T.info
  cases bo with
  | some ad =>
    obtain ⟨v', w', h2, h3, h4, _, h6⟩ := run_append_own_at (P := P) w base t ty e i z size bytes T.ht hi hz hs hb T.hzs T.pos v n xs hown ad m c news hl (fun j u h => by obtain ⟨b, hb, hc⟩ := hat j u h; cases hb; exact hc) h1 h63 hbytes hbase
    exact ⟨v', w', h2, h3, h4, h6⟩
  | none =>
    have hnews : news = [] := by
      cases news with
      | nil => rfl
      | cons u us => obtain ⟨b, hb, _⟩ := hat 0 u rfl; cases hb
    subst hnews
    have hm : m = 0 := by
      have hp := T.pos
      rcases Nat.eq_zero_or_pos m with h | h
      · exact h
      · have := Nat.mul_pos h hp; simp at hl; omega
    subst hm
    refine ⟨v, w, ?_, by simpa using hown, ⟨rfl, rfl, rfl, Nat.le_refl _, fun _ _ _ => rfl⟩, .inl rfl⟩
    have ht := T.ht
    rcases hown.2 with ⟨rfl, rfl⟩ | ⟨g, cap, cur, rfl, _, _, hnc, _, _, _⟩
    · simp [Builtin.append_, run_underlying ht, sizeOf, typeInfo, hi, Builtin.lenOf, Builtin.firstCells]
    · simp [Builtin.append_, run_underlying ht, sizeOf, typeInfo, hi, Builtin.lenOf, Builtin.firstCells, hnc, storeCells]

theorem wp_append_any {P : Program} {t e : TypeId} {size bytes : Nat} {z : Value} (T : RowTy P t e size bytes z) (w : World) {o : Oper} {a : Act} {K : Act → World → Prop} {Q : Exit → Act → World → Prop} (s x : Operand)
    (ho : o.op = .call { callee := .builtin .append, args := #[s, x], argTypes := #[t, t] })
    (base : Nat) (v : Value) (n : Nat) (xs : List Value) (hs : a.eval s = v) (hown : w.ownsRow base e size v n xs)
    (bo : Option Addr) (m c : Nat) (news : List Value) (hx : a.eval x = .slice bo m c) (hl : news.length = m * size) (hat : At w bo news) (h1 : ∀ u ∈ news, u.oneCell' = true)
    (h63 : n + m ≤ maxLen) (hbytes : (n + m) * bytes ≤ 140737488355328) (hbase : base ≤ w.heap.size)
    (h : ∀ b' c' w', w'.ownsRow base e size (.slice b' (n + m) c') (n + m) (xs ++ news) → w.grownBy w' v.ownBlock → ((Value.slice b' (n + m) c').ownBlock = v.ownBlock ∨ (Value.slice b' (n + m) c').ownBlock = some w.heap.size) → K (a.put o.dst (.slice b' (n + m) c')) w') : o.wp P a w K Q := by
  obtain ⟨v', w', hr, h2, h3, h4⟩ := run_append_any T w base o.type v n xs hown bo m c news hl hat h1 h63 hbytes hbase
  unfold Oper.wp execOp
  simp only [ho, resolve, invoke, builtin, Sem.run_bind, Sem.run_pure, Result.andThen_ok, List.map_toArray, List.map_cons, List.map_nil, hs, hx, hr]
  obtain ⟨b', c', rfl⟩ := owns_shape h2
  exact h b' c' w' h2 h3 h4

theorem wpList_append_any {P : Program} {t e : TypeId} {size bytes : Nat} {z : Value} (T : RowTy P t e size bytes z) {w : World} {ops : Array Oper} {rest : List Oper} {o : Oper} {a : Act} {Q : Exit → Act → World → Prop} (hgd : o.guard = none) (s x : Operand)
    (ho : o.op = .call { callee := .builtin .append, args := #[s, x], argTypes := #[t, t] })
    (base : Nat) (v : Value) (n : Nat) (xs : List Value) (hs : a.eval s = v) (hown : w.ownsRow base e size v n xs)
    (bo : Option Addr) (m c : Nat) (news : List Value) (hx : a.eval x = .slice bo m c) (hl : news.length = m * size) (hat : At w bo news) (h1 : ∀ u ∈ news, u.oneCell' = true)
    (h63 : n + m ≤ maxLen) (hbytes : (n + m) * bytes ≤ 140737488355328) (hbase : base ≤ w.heap.size)
    (h : ∀ b' c' w', w'.ownsRow base e size (.slice b' (n + m) c') (n + m) (xs ++ news) → w.grownBy w' v.ownBlock → ((Value.slice b' (n + m) c').ownBlock = v.ownBlock ∨ (Value.slice b' (n + m) c').ownBlock = some w.heap.size) → wpList P ops Q rest (a.put o.dst (.slice b' (n + m) c')) w') : wpList P ops Q (o :: rest) a w :=
  wpList_plain hgd fun _ hK => wp_append_any T w s x ho base v n xs hs hown bo m c news hx hl hat h1 h63 hbytes hbase fun b' c' w' h2 h3 h4 => hK _ _ (h b' c' w' h2 h3 h4)

theorem step_append_any {P : Program} {t e : TypeId} {size bytes : Nat} {z : Value} (T : RowTy P t e size bytes z) {w : World} {ops : Array Oper} {o : Oper} {a : Act} {K : Act → World → Prop} {Q : Exit → Act → World → Prop} {E : Prop} (hgd : o.guard = none) (s x : Operand)
    (ho : o.op = .call { callee := .builtin .append, args := #[s, x], argTypes := #[t, t] })
    (base : Nat) (v : Value) (n : Nat) (xs : List Value) (hs : a.eval s = v) (hown : w.ownsRow base e size v n xs)
    (bo : Option Addr) (m c : Nat) (news : List Value) (hx : a.eval x = .slice bo m c) (hl : news.length = m * size) (hat : At w bo news) (h1 : ∀ u ∈ news, u.oneCell' = true)
    (h63 : n + m ≤ maxLen) (hbytes : (n + m) * bytes ≤ 140737488355328) (hbase : base ≤ w.heap.size)
    (h : ∀ b' c' w', w'.ownsRow base e size (.slice b' (n + m) c') (n + m) (xs ++ news) → w.grownBy w' v.ownBlock → ((Value.slice b' (n + m) c').ownBlock = v.ownBlock ∨ (Value.slice b' (n + m) c').ownBlock = some w.heap.size) → K (a.put o.dst (.slice b' (n + m) c')) w') :
    if Region.wanted o (yielded ops a.tmps) = true then Oper.wp P o a w K Q else E := by
  have hw : Region.wanted o (yielded ops a.tmps) = true := by simp [Region.wanted, hgd]
  rw [if_pos hw]
  exact wp_append_any T w s x ho base v n xs hs hown bo m c news hx hl hat h1 h63 hbytes hbase h

/-- append-of-make: k zero values behind what is owned. -/
theorem zeroCells_list (z : Value) (k : Nat) (hz : z.cells = #[z]) : (Builtin.zeroCells z.cells k).toList = List.replicate k z := by
  rw [hz]
  unfold Builtin.zeroCells
  apply List.ext_getElem
  · simp
  · intro i h1 h2
    simp [Nat.mod_one]

theorem run_append_zeros_any {P : Program} {t e : TypeId} {bytes : Nat} {z : Value} (T : RowTy P t e 1 bytes z) (hzc : z.cells = #[z]) (h1z : z.oneCell' = true) (w : World) (base : Nat) (tn ty : TypeId) (kq kn : IntKind) (htn : P.underlying tn = some (.int kn)) (v : Value) (n : Nat) (xs : List Value) (hown : w.ownsRow base e 1 v n xs)
    (k : Nat) (h63 : n + k ≤ maxLen) (hbytes : (n + k) * bytes ≤ 140737488355328) (hbase : base ≤ w.heap.size) :
    ∃ v' w', (Builtin.append_ #[t, tn] ty #[v, .int kq k]).run P w = .ok v' w' ∧ w'.ownsRow base e 1 v' (n + k) (xs ++ List.replicate k z) ∧ w.grownBy w' v.ownBlock ∧ (v'.ownBlock = v.ownBlock ∨ v'.ownBlock = some w.heap.size) := by
  obtain ⟨i, hi, hz, hs, hb⟩ := info_parts T.info
  have ht := T.ht
  have hsmall : n + k ≤ 9223372036854775807 := by simp only [maxLen] at h63; omega
  have hw : IntKind.i64.wrap (k : Int) = k := by rw [IntKind.wrap_i64]; omega
  have hneg : ¬ ((k : Int) < 0) := by omega
  have hkb : k * bytes ≤ 140737488355328 := Nat.le_trans (Nat.mul_le_mul_right _ (by omega)) hbytes
  have h48i : ¬ (281474976710656 < (k : Int) * (i.bytes : Int)) := by
    rw [← Int.natCast_mul, hb]; omega
  have hzl := zeroCells_list z k hzc
  have hlen : (xs ++ List.replicate k z).length = (n + k) * 1 := by rw [List.length_append, hown.1, List.length_replicate]; omega
  have h1all : ∀ u ∈ List.replicate k z, u.oneCell' = true := fun u hu => by rw [List.eq_of_mem_replicate hu]; exact h1z
  have grown : ∀ (old : Nat), old < n + k → ∀ (row : Option Nat),
      (w.drew.alloc (.cells (xs.toArray ++ Builtin.zeroCells z.cells k ++ Builtin.zeroCells z.cells (grownCap w (n + k) old e - (n + k))) e)).ownsRow base e 1
        (.slice (some ⟨w.heap.size, 0, none⟩) (n + k) (grownCap w (n + k) old e)) (n + k) (xs ++ List.replicate k z) ∧
      w.grownBy (w.drew.alloc (.cells (xs.toArray ++ Builtin.zeroCells z.cells k ++ Builtin.zeroCells z.cells (grownCap w (n + k) old e - (n + k))) e)) row := by
    intro old ho row
    have hge := grownCap_ge w (n + k) old e
    have hcm : grownCap w (n + k) old e ≤ maxLen := grownCap_le_maxLen w (n + k) old e h63
    refine ⟨⟨hlen, .inr ⟨w.heap.size, _, _, rfl, hbase, heap_alloc_new w.drew _, hge, hcm, ?_, ?_⟩⟩, ⟨rfl, rfl, rfl, by simp, fun j hj _ => heap_alloc_old w.drew _ hj⟩⟩
    · have := hown.1
      simp only [Array.size_append, List.size_toArray, size_zeroCells, hzc]
      simp
      omega
    · simp only [Array.toList_append, List.append_assoc, hzl]
      rw [← List.append_assoc, ← hlen]
      exact List.take_left
  rcases hown.2 with ⟨rfl, rfl⟩ | ⟨g, cap, cur, rfl, hbg, hg, hnc, hcm, hcs, htake⟩
  · have hx : xs = [] := List.eq_nil_of_length_eq_zero (by simpa using hown.1)
    subst hx
    rcases Nat.eq_zero_or_pos k with rfl | hk
    · refine ⟨.slice none 0 0, w, ?_, by simpa using World.ownsRow_nil w base e 1, ⟨rfl, rfl, rfl, Nat.le_refl _, fun _ _ _ => rfl⟩, .inl rfl⟩
      have hw0 : IntKind.i64.wrap 0 = 0 := by decide
      simp [Builtin.append_, run_underlying ht, run_underlying htn, sizeOf, typeInfo, hi, asInt, asIntOf, hw0]
    · have hr := Lib.run_append_nil_zeros (P := P) w t tn ty e i z kq kn ht htn hi hz k hk (by omega) (by omega) (by rw [hb]; omega)
      have hgr := grown 0 (by omega) none
      simp only [Nat.zero_add, List.nil_append, Array.empty_append] at hgr ⊢
      exact ⟨_, _, hr, hgr.1, hgr.2, .inr rfl⟩
  · by_cases hroom : n + k ≤ cap
    · have hfit : n * i.size + (List.replicate k z).length ≤ cur.size := by rw [List.length_replicate, hcs, hs]; omega
      have hst := run_storeCells_at P g (n * i.size) e (List.replicate k z) 0 cur w hg (by simpa using hfit) h1all
      simp only [Nat.add_zero] at hst
      have hr : (Builtin.append_ #[t, tn] ty #[.slice (some ⟨g, 0, none⟩) n cap, .int kq k]).run P w = .ok (.slice (some ⟨g, 0, none⟩) (n + k) cap) (w.setRow g (cur.toList.take (n * i.size) ++ List.replicate k z ++ cur.toList.drop (n * i.size + (List.replicate k z).length)).toArray) := by
        rcases Nat.eq_zero_or_pos k with rfl | hk
        · have hw0 : IntKind.i64.wrap 0 = 0 := by decide
          simp [Builtin.append_, run_underlying ht, run_underlying htn, sizeOf, typeInfo, hi, asInt, asIntOf, hw0, hnc, storeCells, Addr.add_lit]
          rw [setRow_self w g cur e (0, 0) hg]
        · have hk0 : ¬ (k = 0) := by omega
          simp [Builtin.append_, run_underlying ht, run_underlying htn, sizeOf, typeInfo, zeroValue, hi, hz, hs, asInt, asIntOf, hw, hneg, h48i, hroom, hk0, hzl, Addr.add_lit] at hst ⊢
          rw [hst]; rfl
      rw [hs] at hr
      refine ⟨_, _, hr, ⟨hlen, .inr ⟨g, cap, _, rfl, hbg, setRow_heap w g cur _ e _ hg, hroom, hcm, ?_, ?_⟩⟩, ⟨rfl, rfl, rfl, by simp, fun k _ hk => setRow_other w g k _ (fun e => hk (by simp [Value.ownBlock, e]))⟩, .inl rfl⟩
      · simp only [List.size_toArray, List.length_append, List.length_take, List.length_drop, Array.length_toList, List.length_replicate]
        omega
      · rw [htake, ← hlen]
        exact List.take_left
    · have holds : ∀ j u, xs[j]? = some u → w.cell? ((⟨g, 0, none⟩ : Addr).add j) = some u := hown.cells (g := g) rfl
      have hold : (Builtin.firstCells i.size n (.slice (some ⟨g, 0, none⟩) n cap)).run P w.drew = .ok xs.toArray w.drew :=
        run_firstCells_some (P := P) w.drew i.size n ⟨g, 0, none⟩ n cap xs (by rw [hs]; exact hown.1) holds
      rcases Nat.eq_zero_or_pos k with rfl | hk
      · omega
      have hr := Lib.run_append_grow_zeros (P := P) w t tn ty e i z kq kn ht htn hi hz (some ⟨g, 0, none⟩) n cap xs hold k hk (by omega) (by omega) (by omega) (by rw [hb]; omega) (growslice_fits (by omega) (by rw [hb]; exact hbytes))
      have hgr := grown cap (by omega) (some g)
      exact ⟨_, _, hr, hgr.1, hgr.2, .inr rfl⟩

theorem wpList_append_zeros_any {P : Program} {t e : TypeId} {bytes : Nat} {z : Value} (T : RowTy P t e 1 bytes z) (hzc : z.cells = #[z]) (h1z : z.oneCell' = true) {w : World} {ops : Array Oper} {rest : List Oper} {o : Oper} {a : Act} {Q : Exit → Act → World → Prop} (hgd : o.guard = none) (s x : Operand) (tn : TypeId)
    (ho : o.op = .call { callee := .builtin .append, args := #[s, x], argTypes := #[t, tn] })
    (base : Nat) (kq kn : IntKind) (htn : P.underlying tn = some (.int kn)) (v : Value) (n : Nat) (xs : List Value) (hs : a.eval s = v) (hown : w.ownsRow base e 1 v n xs)
    (k : Nat) (hx : a.eval x = .int kq k) (h63 : n + k ≤ maxLen) (hbytes : (n + k) * bytes ≤ 140737488355328) (hbase : base ≤ w.heap.size)
    (h : ∀ b' c' w', w'.ownsRow base e 1 (.slice b' (n + k) c') (n + k) (xs ++ List.replicate k z) → w.grownBy w' v.ownBlock → ((Value.slice b' (n + k) c').ownBlock = v.ownBlock ∨ (Value.slice b' (n + k) c').ownBlock = some w.heap.size) → wpList P ops Q rest (a.put o.dst (.slice b' (n + k) c')) w') : wpList P ops Q (o :: rest) a w := by
  refine wpList_plain hgd fun _ hK => ?_
  obtain ⟨v', w', hr, h2, h3, h4⟩ := run_append_zeros_any T hzc h1z w base tn o.type kq kn htn v n xs hown k h63 hbytes hbase
  obtain ⟨b', c', rfl⟩ := owns_shape h2
  exact Lib.wp_append_run w s x t tn ho _ _ hs hx _ w' hr (hK _ _ (h b' c' w' h2 h3 h4))

theorem step_append_zeros_any {P : Program} {t e : TypeId} {bytes : Nat} {z : Value} (T : RowTy P t e 1 bytes z) (hzc : z.cells = #[z]) (h1z : z.oneCell' = true) {w : World} {ops : Array Oper} {o : Oper} {a : Act} {K : Act → World → Prop} {Q : Exit → Act → World → Prop} {E : Prop} (hgd : o.guard = none) (s x : Operand) (tn : TypeId)
    (ho : o.op = .call { callee := .builtin .append, args := #[s, x], argTypes := #[t, tn] })
    (base : Nat) (kq kn : IntKind) (htn : P.underlying tn = some (.int kn)) (v : Value) (n : Nat) (xs : List Value) (hs : a.eval s = v) (hown : w.ownsRow base e 1 v n xs)
    (k : Nat) (hx : a.eval x = .int kq k) (h63 : n + k ≤ maxLen) (hbytes : (n + k) * bytes ≤ 140737488355328) (hbase : base ≤ w.heap.size)
    (h : ∀ b' c' w', w'.ownsRow base e 1 (.slice b' (n + k) c') (n + k) (xs ++ List.replicate k z) → w.grownBy w' v.ownBlock → ((Value.slice b' (n + k) c').ownBlock = v.ownBlock ∨ (Value.slice b' (n + k) c').ownBlock = some w.heap.size) → K (a.put o.dst (.slice b' (n + k) c')) w') :
    if Region.wanted o (yielded ops a.tmps) = true then Oper.wp P o a w K Q else E := by
  have hw : Region.wanted o (yielded ops a.tmps) = true := by simp [Region.wanted, hgd]
  rw [if_pos hw]
  obtain ⟨v', w', hr, h2, h3, h4⟩ := run_append_zeros_any T hzc h1z w base tn o.type kq kn htn v n xs hown k h63 hbytes hbase
  obtain ⟨b', c', rfl⟩ := owns_shape h2
  exact Lib.wp_append_run w s x t tn ho _ _ hs hx _ w' hr (h b' c' w' h2 h3 h4)

/-! ### bytes -/
theorem bcells_one (l : List UInt8) : ∀ u ∈ bcells l, u.oneCell' = true := by
  intro u hu
  obtain ⟨b, _, rfl⟩ := List.mem_map.1 hu
  rfl
theorem bcells_append (a b : List UInt8) : bcells (a ++ b) = bcells a ++ bcells b := List.map_append
theorem bcells_zeros (k : Nat) : bcells (List.replicate k 0) = List.replicate k (.int .u8 0) := by unfold bcells; rw [List.map_replicate]; rfl
theorem IsB.at {w : World} {a : Option Addr} {m c : Nat} {l : List UInt8} (h : IsB w a m c l) : At w a (bcells l) := by
  obtain ⟨_, _, _, ⟨rfl, _⟩ | ⟨b, off, rfl, _, hc⟩⟩ := h
  · exact At.nil _ _
  · refine At.of_cells fun j hj => ?_
    have hj' : j < l.length := by simpa [bcells] using hj
    rw [hc j hj']
    simp [bcells]
/-- What is owned, read as bytes. -/
theorem isB_of_owns {w : World} {base e n : Nat} {a : Option Addr} {m c : Nat} {l : List UInt8} (h : w.ownsRow base e 1 (.slice a m c) n (bcells l)) (hn : n = l.length) : IsB w a m c l := by
  have hl := h.1
  rcases h.2 with ⟨hv, h0⟩ | ⟨g, cap, cur, hv, hb, hg, hnc, hcm, hcs, htk⟩
  · cases hv
    have : l = [] := List.eq_nil_of_length_eq_zero (by omega)
    subst this
    exact ⟨rfl, Nat.le_refl _, by decide, .inl ⟨rfl, fun _ => rfl⟩⟩
  · cases hv
    refine ⟨hn, by omega, hcm, .inr ⟨g, 0, rfl, ?_, fun i hi => ?_⟩⟩
    · exact (h.lt g rfl).2
    · rw [Nat.zero_add]
      exact cells_of_owns h i _ (by simp [bcells, hi])

end Go.Proofs.YthenakdfdpdknaaGreatDoor

/- Laws of our own on what a call leaves of the memory, and on copy; no program in sight. -/
namespace Go.Proofs.YthenakdfdpdknaaGreatDoor
open Go.RowKit
set_option linter.unusedVariables false

/-- All blocks that were there, but those of S, are as they were. -/
structure Touch (S : Nat → Prop) (w w' : World) : Prop where
  os : w'.os = w.os
  tape : w'.tape = w.tape
  output : w'.output = w.output
  size : w.heap.size ≤ w'.heap.size
  block : ∀ k, k < w.heap.size → ¬ S k → w'.heap[k]? = w.heap[k]?

theorem Touch.refl (S : Nat → Prop) (w : World) : Touch S w w := ⟨rfl, rfl, rfl, Nat.le_refl _, fun _ _ _ => rfl⟩
theorem Touch.trans {S : Nat → Prop} {a b c : World} (h : Touch S a b) (k : Touch S b c) : Touch S a c :=
  ⟨k.os.trans h.os, k.tape.trans h.tape, k.output.trans h.output, Nat.le_trans h.size k.size, fun j hj hs => (k.block j (Nat.lt_of_lt_of_le hj h.size) hs).trans (h.block j hj hs)⟩
theorem Touch.weaken {S T : Nat → Prop} {w w' : World} (h : Touch S w w') (hs : ∀ k, k < w.heap.size → S k → T k) : Touch T w w' :=
  ⟨h.os, h.tape, h.output, h.size, fun k hk ht => h.block k hk fun hk' => ht (hs k hk hk')⟩
theorem Touch.andThen {S T : Nat → Prop} {a b c : World} (h : Touch S a b) (k : Touch T b c) (hT : ∀ j, T j → S j ∨ a.heap.size ≤ j) : Touch S a c :=
  ⟨k.os.trans h.os, k.tape.trans h.tape, k.output.trans h.output, Nat.le_trans h.size k.size, fun j hj hs => (k.block j (Nat.lt_of_lt_of_le hj h.size) (fun ht => by
    rcases hT j ht with h1 | h1
    · exact hs h1
    · omega)).trans (h.block j hj hs)⟩
theorem Touch.of_below {S : Nat → Prop} {w w' : World} (h : Below w.heap.size w w') : Touch S w w' := ⟨h.os, h.tape, h.output, h.size, fun k hk _ => h.block k hk⟩
theorem Touch.below {S : Nat → Prop} {w w' : World} (h : Touch S w w') {B : Nat} (hB : B ≤ w.heap.size) (hs : ∀ k, k < B → ¬ S k) : Below B w w' :=
  ⟨h.os, h.tape, h.output, h.size, fun k hk => h.block k (Nat.lt_of_lt_of_le hk hB) (hs k hk)⟩
theorem Touch.alloc {S : Nat → Prop} {a w : World} (h : Touch S a w) (o : Obj) : Touch S a (w.alloc o) :=
  h.trans (Touch.of_below ((Below.refl _ _).alloc (Nat.le_refl _) o))
theorem Touch.drew {S : Nat → Prop} {a w : World} (h : Touch S a w) : Touch S a w.drew := h.trans (Touch.of_below (Below.refl _ _).drew)
theorem Touch.drewN {S : Nat → Prop} {a w : World} (h : Touch S a w) (n : Nat) : Touch S a (w.drewN n) := h.trans (Touch.of_below (below_drewN (Below.refl _ _) n))
theorem Touch.setCell {S : Nat → Prop} {a w : World} (h : Touch S a w) (p : Addr) (u : Value) (hp : S p.block ∨ a.heap.size ≤ p.block) : Touch S a (w.setCell p u) := by
  refine ⟨h.os, h.tape, h.output, by simpa using h.size, fun k hk hs => ?_⟩
  rw [Below.heap_setCell _ _ _ _ (by rcases hp with hp | hp
                                     · exact fun e => hs (e ▸ hp)
                                     · omega)]
  exact h.block k hk hs
theorem Touch.setRow {S : Nat → Prop} {a w : World} (h : Touch S a w) (g : Nat) (cs : Array Value) (hp : S g ∨ a.heap.size ≤ g) : Touch S a (w.setRow g cs) := by
  refine ⟨h.os, h.tape, h.output, by simpa using h.size, fun k hk hs => ?_⟩
  rw [setRow_other _ _ _ _ (by rcases hp with hp | hp
                               · exact fun e => hs (e ▸ hp)
                               · omega)]
  exact h.block k hk hs
theorem Touch.grown {S : Nat → Prop} {a w w' : World} {row : Option Nat} (h : Touch S a w) (hg : w.grownBy w' row) (hr : ∀ k, row = some k → S k ∨ a.heap.size ≤ k) : Touch S a w' := by
  refine ⟨hg.os.trans h.os, hg.tape.trans h.tape, hg.output.trans h.output, Nat.le_trans h.size hg.size, fun k hk hs => ?_⟩
  have hne : some k ≠ row := fun e => by
    rcases hr k e.symm with h1 | h1
    · exact hs h1
    · omega
  rw [hg.block k (Nat.lt_of_lt_of_le hk h.size) hne]
  exact h.block k hk hs
theorem lt_of_heap {w : World} {k : Nat} {o : Obj} (h : w.heap[k]? = some o) : k < w.heap.size := by
  rcases Nat.lt_or_ge k w.heap.size with h' | h'
  · exact h'
  · simp [Array.getElem?_eq_none h'] at h
theorem Touch.heap {S : Nat → Prop} {w w' : World} (h : Touch S w w') {k : Nat} {o : Obj} (hk : w.heap[k]? = some o) (hs : ¬ S k) : w'.heap[k]? = some o := (h.block k (lt_of_heap hk) hs).trans hk
theorem Touch.cell {S : Nat → Prop} {w w' : World} (h : Touch S w w') {p : Addr} {v : Value} (hp : w.cell? p = some v) (hs : ¬ S p.block) : w'.cell? p = some v := by
  have hlt : p.block < w.heap.size := by
    rcases Nat.lt_or_ge p.block w.heap.size with h' | h'
    · exact h'
    · simp [World.cell?, Array.getElem?_eq_none h'] at hp
  rw [World.cell?_of_block (w := w) (h.block p.block hlt hs)]; exact hp
theorem below_heap {B : Nat} {w w' : World} (h : Below B w w') {k : Nat} {o : Obj} (hk : w.heap[k]? = some o) (hs : k < B) : w'.heap[k]? = some o := (h.block k hs).trans hk

theorem cell_alloc {w : World} {p : Addr} {v : Value} (h : w.cell? p = some v) (o : Obj) : (w.alloc o).cell? p = some v := (Touch.of_below (S := fun _ => False) ((Below.refl _ _).alloc (Nat.le_refl _) o)).cell h id

theorem IsB.touch {S : Nat → Prop} {w w' : World} {a : Option Addr} {n c : Nat} {l : List UInt8} (h : IsB w a n c l) (ht : Touch S w w') (hs : ∀ b off, a = some ⟨b, off, none⟩ → l ≠ [] → ¬ S b) : IsB w' a n c l := by
  obtain ⟨h1, h2, h3, h4 | ⟨b, off, rfl, hlt, hc⟩⟩ := h
  · exact ⟨h1, h2, h3, .inl h4⟩
  · by_cases hl : l = []
    · exact ⟨h1, h2, h3, .inl ⟨hl, fun h => by cases h⟩⟩
    · exact ⟨h1, h2, h3, .inr ⟨b, off, rfl, Nat.lt_of_lt_of_le hlt ht.size, fun i hi => ht.cell (hc i hi) (hs b off rfl hl)⟩⟩

/-! ### copy -/
theorem run_copy_any {P : Program} {t e : TypeId} {size bytes : Nat} {z : Value} (T : RowTy P t e size bytes z) (w : World) (sT ty : TypeId) (dp sp : Option Addr) (dLen dCap sLen sCap : Nat) (g off : Nat) (cur : Array Value) (et : TypeId)
    (hg : w.heap[g]? = some (.cells cur et (0, 0))) (cs : List Value) (hn : cs.length = Nat.min sLen dLen * size) (hd : 0 < cs.length → dp = some ⟨g, off, none⟩) (hat : At w sp cs) (hfit : off + cs.length ≤ cur.size) (h1 : ∀ v ∈ cs, v.oneCell' = true) :
    (Builtin.copy_ #[t, sT] ty #[.slice dp dLen dCap, .slice sp sLen sCap]).run P w = .ok (goInt (Nat.min sLen dLen)) (w.setRow g (cur.toList.take off ++ cs ++ cur.toList.drop (off + cs.length)).toArray) := by
  obtain ⟨i, hi, hz, hs, hb⟩ := info_parts T.info
  have ht := T.ht
  have hfc : (Builtin.firstCells i.size (Nat.min sLen dLen) (.slice sp sLen sCap)).run P w = .ok cs.toArray w := by
    cases sp with
    | none =>
      have : cs = [] := by
        cases cs with
        | nil => rfl
        | cons u us => obtain ⟨b, hb, _⟩ := hat 0 u rfl; cases hb
      subst this
      simp [Builtin.firstCells]
    | some b => exact run_firstCells_some (P := P) w i.size _ b sLen sCap cs (by rw [hs]; exact hn) (fun j v h => by obtain ⟨b', hb', hc⟩ := hat j v h; cases hb'; exact hc)
  rcases Nat.eq_zero_or_pos cs.length with h0 | hpos
  · have hcs : cs = [] := List.eq_nil_of_length_eq_zero h0
    subst hcs
    have hself : (cur.toList.take off ++ [] ++ cur.toList.drop (off + ([] : List Value).length)).toArray = cur := by simp
    rw [hself, setRow_self w g cur et (0, 0) hg]
    cases dp with
    | none => simp [Builtin.copy_, run_underlying ht, sizeOf, typeInfo, hi, Builtin.lenOf, hfc]
    | some a => simp [Builtin.copy_, run_underlying ht, sizeOf, typeInfo, hi, Builtin.lenOf, hfc, storeCells]
  · rw [hd hpos]
    have hst := run_storeCells_at P g off et cs 0 cur w hg (by omega) h1
    simp only [Nat.add_zero] at hst
    simp [Builtin.copy_, run_underlying ht, sizeOf, typeInfo, hi, Builtin.lenOf, hfc, hst]

theorem wp_copy_any {P : Program} {t e : TypeId} {size bytes : Nat} {z : Value} (T : RowTy P t e size bytes z) {w : World} {o : Oper} {a : Act} {K : Act → World → Prop} {Q : Exit → Act → World → Prop} (d s : Operand) (sT : TypeId)
    (ho : o.op = .call { callee := .builtin .copy, args := #[d, s], argTypes := #[t, sT] }) (dp sp : Option Addr) (dLen dCap sLen sCap : Nat) (hdv : a.eval d = .slice dp dLen dCap) (hsv : a.eval s = .slice sp sLen sCap) (g off : Nat) (cur : Array Value) (et : TypeId)
    (hg : w.heap[g]? = some (.cells cur et (0, 0))) (cs : List Value) (hn : cs.length = Nat.min sLen dLen * size) (hd : 0 < cs.length → dp = some ⟨g, off, none⟩) (hat : At w sp cs) (hfit : off + cs.length ≤ cur.size) (h1 : ∀ v ∈ cs, v.oneCell' = true)
    (h : ∀ w', w'.heap[g]? = some (.cells (cur.toList.take off ++ cs ++ cur.toList.drop (off + cs.length)).toArray et (0, 0)) → Touch (fun k => k = g) w w' → K (a.put o.dst (goInt (Nat.min sLen dLen))) w') : o.wp P a w K Q := by
  have hr := run_copy_any T w sT o.type dp sp dLen dCap sLen sCap g off cur et hg cs hn hd hat hfit h1
  unfold Oper.wp execOp
  simp only [ho, resolve, invoke, builtin, Sem.run_bind, Sem.run_pure, Result.andThen_ok, List.map_toArray, List.map_cons, List.map_nil, hdv, hsv, hr]
  exact h _ (setRow_heap w g cur _ et _ hg) ((Touch.refl _ w).setRow g _ (.inl rfl))

theorem wpList_copy_any {P : Program} {t e : TypeId} {size bytes : Nat} {z : Value} (T : RowTy P t e size bytes z) {w : World} {ops : Array Oper} {rest : List Oper} {o : Oper} {a : Act} {Q : Exit → Act → World → Prop} (hgd : o.guard = none) (d s : Operand) (sT : TypeId)
    (ho : o.op = .call { callee := .builtin .copy, args := #[d, s], argTypes := #[t, sT] }) (dp sp : Option Addr) (dLen dCap sLen sCap : Nat) (hdv : a.eval d = .slice dp dLen dCap) (hsv : a.eval s = .slice sp sLen sCap) (g off : Nat) (cur : Array Value) (et : TypeId)
    (hg : w.heap[g]? = some (.cells cur et (0, 0))) (cs : List Value) (hn : cs.length = Nat.min sLen dLen * size) (hd : 0 < cs.length → dp = some ⟨g, off, none⟩) (hat : At w sp cs) (hfit : off + cs.length ≤ cur.size) (h1 : ∀ v ∈ cs, v.oneCell' = true)
    (h : ∀ w', w'.heap[g]? = some (.cells (cur.toList.take off ++ cs ++ cur.toList.drop (off + cs.length)).toArray et (0, 0)) → Touch (fun k => k = g) w w' → wpList P ops Q rest (a.put o.dst (goInt (Nat.min sLen dLen))) w') : wpList P ops Q (o :: rest) a w :=
  wpList_plain hgd fun _ hK => wp_copy_any T d s sT ho dp sp dLen dCap sLen sCap hdv hsv g off cur et hg cs hn hd hat hfit h1 fun w' h2 h3 => hK _ _ (h w' h2 h3)

theorem step_copy_any {P : Program} {t e : TypeId} {size bytes : Nat} {z : Value} (T : RowTy P t e size bytes z) {w : World} {ops : Array Oper} {o : Oper} {a : Act} {K : Act → World → Prop} {Q : Exit → Act → World → Prop} {E : Prop} (hgd : o.guard = none) (d s : Operand) (sT : TypeId)
    (ho : o.op = .call { callee := .builtin .copy, args := #[d, s], argTypes := #[t, sT] }) (dp sp : Option Addr) (dLen dCap sLen sCap : Nat) (hdv : a.eval d = .slice dp dLen dCap) (hsv : a.eval s = .slice sp sLen sCap) (g off : Nat) (cur : Array Value) (et : TypeId)
    (hg : w.heap[g]? = some (.cells cur et (0, 0))) (cs : List Value) (hn : cs.length = Nat.min sLen dLen * size) (hd : 0 < cs.length → dp = some ⟨g, off, none⟩) (hat : At w sp cs) (hfit : off + cs.length ≤ cur.size) (h1 : ∀ v ∈ cs, v.oneCell' = true)
    (h : ∀ w', w'.heap[g]? = some (.cells (cur.toList.take off ++ cs ++ cur.toList.drop (off + cs.length)).toArray et (0, 0)) → Touch (fun k => k = g) w w' → K (a.put o.dst (goInt (Nat.min sLen dLen))) w') :
    if Region.wanted o (yielded ops a.tmps) = true then Oper.wp P o a w K Q else E := by
  have hw : Region.wanted o (yielded ops a.tmps) = true := by simp [Region.wanted, hgd]
  rw [if_pos hw]
  exact wp_copy_any T d s sT ho dp sp dLen dCap sLen sCap hdv hsv g off cur et hg cs hn hd hat hfit h1 h

/-! ### a new variable, its zero kept under a name -/
theorem wpList_alloc_any {P : Program} {w : World} {ops : Array Oper} {rest : List Oper} {o : Oper} {a : Act} {Q : Exit → Act → World → Prop} (hgd : o.guard = none) (t : TypeId) (ho : o.op = .alloc t)
    (z : Value) (hz : (P.info? t).map (·.zero) = some (some z)) (C : Array Value) (hC : z.cells = C)
    (h : wpList P ops Q rest (a.put o.dst (.pointer (some ⟨w.heap.size, 0, none⟩))) (w.alloc (.cells C t))) : wpList P ops Q (o :: rest) a w := by
  refine wpList_plain hgd fun K hK => ?_
  obtain ⟨i, hi, hzi⟩ := Option.map_eq_some_iff.1 hz
  subst hC
  unfold Oper.wp execOp
  simp only [ho, Instr.alloc]
  simp [zeroValue, typeInfo, hi, hzi, newVar, newRow]
  exact hK _ _ h

/-! ### many cells stored -/
theorem setCells_row (P : Program) (w : World) (g o : Nat) (vs : List Value) (cur : Array Value) (t : TypeId) (hg : w.heap[g]? = some (.cells cur t (0, 0))) (hfit : o + vs.length ≤ cur.size) (h1 : ∀ v ∈ vs, v.oneCell' = true) :
    w.setCells g o vs = w.setRow g (cur.toList.take o ++ vs ++ cur.toList.drop (o + vs.length)).toArray := by
  have r1 := run_storeCells_at P g o t vs 0 cur w hg (by omega) h1
  have r2 := run_storeCells_cells (P := P) g o vs 0 w (fun j hj => by rw [cell_of_block hg]; simp; omega) (fun j hj => by simp [World.frozen?, hg]) h1
  rw [r1] at r2
  simp only [Nat.add_zero] at r2
  have := (Result.ok.inj r2).2
  simpa using this.symm
theorem setCells_heap (P : Program) (w : World) (g o : Nat) (vs : List Value) (cur : Array Value) (t : TypeId) (hg : w.heap[g]? = some (.cells cur t (0, 0))) (hfit : o + vs.length ≤ cur.size) (h1 : ∀ v ∈ vs, v.oneCell' = true) :
    (w.setCells g o vs).heap[g]? = some (.cells (cur.toList.take o ++ vs ++ cur.toList.drop (o + vs.length)).toArray t (0, 0)) ∧ Touch (fun k => k = g) w (w.setCells g o vs) := by
  rw [setCells_row P w g o vs cur t hg hfit h1]
  exact ⟨setRow_heap w g cur _ t _ hg, (Touch.refl _ w).setRow g _ (.inl rfl)⟩
theorem rangeAt_row {w : World} {g : Nat} {cs : List Value} {t : TypeId} {fr : Nat × Nat} (hg : w.heap[g]? = some (.cells cs.toArray t fr)) : w.rangeAt g 0 cs := by
  intro j v hv
  rw [cell_of_block hg, Nat.zero_add, List.getElem?_toArray]; exact hv
theorem there_row {w : World} {g : Nat} {C : Array Value} {t : TypeId} (hg : w.heap[g]? = some (.cells C t (0, 0))) (o n : Nat) (hn : o + n ≤ C.size) : w.there g o n := by
  intro j hj
  exact ⟨by rw [cell_of_block hg]; simp; omega, by simp [World.frozen?, hg]⟩

end Go.Proofs.YthenakdfdpdknaaGreatDoor

/- Rows of bytes, and lists of lists of bytes, in memory: laws of our own; no condition. -/
namespace Go.Proofs.YthenakdfdpdknaaGreatDoor
open Go.RowKit
set_option linter.unusedVariables false

theorem infoU8 : (Tryz.prog.info? 5).map (fun i => (i.zero, i.size, i.bytes)) = some (some (.int .u8 0), 1, 1) := by kernel_rfl
theorem rowU8 : RowTy Tryz.prog 24 5 1 1 (.int .u8 0) := ⟨Tryz.underlying24, infoU8, rfl, by decide⟩
theorem infoBs : (Tryz.prog.info? 24).map (fun i => (i.zero, i.size, i.bytes)) = some (some (.slice none 0 0), 1, 24) := by kernel_rfl
theorem rowBs : RowTy Tryz.prog 63 24 1 24 (.slice none 0 0) := ⟨Tryz.underlying63, infoBs, rfl, by decide⟩

/-- A value that is a slice of bytes, its memory from B on. -/
def ReadAs (w : World) (B : Nat) (u : Value) (l : List UInt8) : Prop := ∃ a n c, u = .slice a n c ∧ IsB w a n c l ∧ ∀ b off, a = some ⟨b, off, none⟩ → l ≠ [] → B ≤ b
theorem ReadAs.touch {S : Nat → Prop} {w w' : World} {B : Nat} {u : Value} {l : List UInt8} (h : ReadAs w B u l) (ht : Touch S w w') (hs : ∀ k, B ≤ k → ¬ S k) : ReadAs w' B u l := by
  obtain ⟨a, n, c, rfl, hb, hB⟩ := h
  exact ⟨a, n, c, rfl, hb.touch ht (fun b off ha hl => hs b (hB b off ha hl)), hB⟩
theorem ReadAs.below {w w' : World} {B : Nat} {u : Value} {l : List UInt8} (h : ReadAs w B u l) (hb : Below w.heap.size w w') : ReadAs w' B u l := h.touch (Touch.of_below (S := fun _ => False) hb) (fun _ _ => id)

/-- A slice of slices of bytes, its memory from B on. -/
def IsBB (w : World) (B : Nat) (a : Option Addr) (n c : Nat) (L : List (List UInt8)) : Prop :=
  n = L.length ∧ L.length ≤ c ∧ c ≤ maxLen ∧ (L = [] ∨ ∃ b off, a = some ⟨b, off, none⟩ ∧ B ≤ b ∧ b < w.heap.size ∧ ∀ i (h : i < L.length), ∃ u, w.cell? ⟨b, off + i, none⟩ = some u ∧ ReadAs w B u L[i])
theorem IsBB.touch {S : Nat → Prop} {w w' : World} {B : Nat} {a : Option Addr} {n c : Nat} {L : List (List UInt8)} (h : IsBB w B a n c L) (ht : Touch S w w') (hs : ∀ k, B ≤ k → ¬ S k) : IsBB w' B a n c L := by
  obtain ⟨h1, h2, h3, h4 | ⟨b, off, rfl, hB, hlt, hc⟩⟩ := h
  · exact ⟨h1, h2, h3, .inl h4⟩
  · refine ⟨h1, h2, h3, .inr ⟨b, off, rfl, hB, Nat.lt_of_lt_of_le hlt ht.size, fun i hi => ?_⟩⟩
    obtain ⟨u, hu, hr⟩ := hc i hi
    exact ⟨u, ht.cell hu (hs b hB), hr.touch ht hs⟩
theorem IsBB.below {w w' : World} {B : Nat} {a : Option Addr} {n c : Nat} {L : List (List UInt8)} (h : IsBB w B a n c L) (hb : Below w.heap.size w w') : IsBB w' B a n c L := h.touch (Touch.of_below (S := fun _ => False) hb) (fun _ _ => id)

theorem owns_touch {S : Nat → Prop} {w w' : World} {B e sz n : Nat} {v : Value} {xs : List Value} (h : w.ownsRow B e sz v n xs) (ht : Touch S w w') (hs : ∀ k, v.ownBlock = some k → ¬ S k) : w'.ownsRow B e sz v n xs := by
  refine ⟨h.1, ?_⟩
  rcases h.2 with h0 | ⟨g, cap, cur, hv, hb, hg, h3⟩
  · exact .inl h0
  · exact .inr ⟨g, cap, cur, hv, hb, ht.heap hg (hs g (by rw [hv]; rfl)), h3⟩
theorem owns_below {w w' : World} {B e sz n : Nat} {v : Value} {xs : List Value} (h : w.ownsRow B e sz v n xs) (hb : Below w.heap.size w w') : w'.ownsRow B e sz v n xs := owns_touch h (Touch.of_below (S := fun _ => False) hb) (fun _ _ => id)
theorem owns_block {w : World} {B e sz n : Nat} {v : Value} {xs : List Value} (h : w.ownsRow B e sz v n xs) {k : Nat} (hk : v.ownBlock = some k) : ∃ cur, w.heap[k]? = some (.cells cur e) := by
  rcases h.2 with ⟨rfl, _⟩ | ⟨g, cap, cur, rfl, hb, hg, h3⟩
  · cases hk
  · cases hk; exact ⟨cur, hg⟩

end Go.Proofs.YthenakdfdpdknaaGreatDoor

/- One byte behind a slice of bytes: just what is written, and where; conditions: those typed. -/
namespace Go.Proofs.YthenakdfdpdknaaGreatDoor
open Go.RowKit
set_option linter.unusedVariables false

/-- A slice that begins its block, and what the block holds. -/
def S1 (w : World) (a : Option Addr) (n c : Nat) (cur : List Value) : Prop :=
  (a = none ∧ n = 0 ∧ c = 0 ∧ cur = []) ∨ ∃ g, a = some ⟨g, 0, none⟩ ∧ w.heap[g]? = some (.cells cur.toArray 5 (0, 0)) ∧ n ≤ c ∧ c ≤ cur.length ∧ c ≤ maxLen

theorem run_append1 (w : World) (ty : TypeId) (a : Option Addr) (n c : Nat) (cur : List Value) (h : S1 w a n c cur) (bo : Addr) (v : Value) (hv : w.cell? bo = some v) (h1 : v.oneCell' = true) (hn : n ≤ 140737488351232) :
    ∃ a' c' cur' w', (Builtin.append_ #[24, 24] ty #[.slice a n c, .slice (some bo) 1 1]).run Tryz.prog w = .ok (.slice a' (n + 1) c') w' ∧ S1 w' a' (n + 1) c' cur' ∧ cur'.take (n + 1) = cur.take n ++ [v] ∧
      ((a' = a ∧ c' = c ∧ n < c ∧ ∀ g, a = some ⟨g, 0, none⟩ → Touch (fun k => k = g) w w') ∨ (a' = some ⟨w.heap.size, 0, none⟩ ∧ Below w.heap.size w w')) := by
  obtain ⟨i, hi, hz, hs, hb⟩ := info_parts rowU8.info
  have ht := rowU8.ht
  have hnews : ∀ j u, [v][j]? = some u → w.cell? (bo.add j) = some u := by
    intro j u hu
    match j, hu with
    | 0, hu => simp at hu; subst hu; simpa [Addr.add] using hv
  have h1' : ∀ u ∈ [v], u.oneCell' = true := fun u hu => by simp at hu; subst hu; exact h1
  rcases h with ⟨rfl, rfl, rfl, rfl⟩ | ⟨g, rfl, hg, hnc, hcl, hcm⟩
  · have hr := run_append_nil (P := Tryz.prog) w 24 ty 5 i _ ht hi hz bo 1 1 [v] (by rw [hs]; rfl) hnews (by decide) (by decide) (by rw [hb]; decide)
    have hge := grownCap_ge w 1 0 5
    have hcm : grownCap w 1 0 5 ≤ maxLen := grownCap_le_maxLen w 1 0 5 (by decide)
    refine ⟨_, _, ([v] ++ (Builtin.zeroCells (Value.int .u8 0).cells (grownCap w 1 0 5 - 1)).toList), _, hr, .inr ⟨w.heap.size, rfl, ?_, by omega, ?_, hcm⟩, ?_, .inr ⟨rfl, ((Below.refl _ w).drew).alloc (by simp) _⟩⟩
    · exact (heap_new w.drew _).trans (by simp)
    · simp only [List.length_append, List.length_singleton, Array.length_toList, size_zeroCells]
      simp [Value.cells]; omega
    · simp
  · by_cases hroom : n + 1 ≤ c
    · have hr := run_append_room (P := Tryz.prog) w 24 ty 5 i ht hi g n c cur.toArray hg bo 1 1 [v] (by rw [hs]; rfl) hnews h1' hroom (by rw [hs]; simp; omega)
      refine ⟨_, _, _, _, hr, .inr ⟨g, rfl, setRow_heap w g _ _ _ _ hg, hroom, ?_, hcm⟩, ?_, .inl ⟨rfl, rfl, by omega, fun g' e => by cases e; exact (Touch.refl _ w).setRow g _ (.inl rfl)⟩⟩
      · rw [hs]; simp; omega
      · rw [hs]
        simp only [Nat.mul_one]
        rw [List.take_append_of_le_length (by simp; omega)]
        exact List.take_of_length_le (by simp; omega)
    · have hold : ∀ j u, (cur.take n)[j]? = some u → w.cell? ((⟨g, 0, none⟩ : Addr).add j) = some u := fun j u hu => by
        rw [Addr.add_mid, cell_of_block hg]
        have hj := (List.getElem?_eq_some_iff.1 hu).1
        rw [List.getElem?_take] at hu
        split at hu
        · simpa using hu
        · cases hu
      have hr := run_append_grow (P := Tryz.prog) w 24 ty 5 i _ ht hi hz ⟨g, 0, none⟩ n c (cur.take n) (by rw [hs]; simp; omega) hold bo 1 1 [v] (by rw [hs]; rfl) hnews (by omega) (by omega) (growslice_fits (by omega) (by rw [hb]; omega))
      have hge := grownCap_ge w (n + 1) c 5
      have hcm2 : grownCap w (n + 1) c 5 ≤ maxLen := grownCap_le_maxLen w (n + 1) c 5 (by unfold maxLen; omega)
      refine ⟨_, _, (cur.take n ++ [v] ++ (Builtin.zeroCells (Value.int .u8 0).cells (grownCap w (n + 1) c 5 - (n + 1))).toList), _, hr, .inr ⟨w.heap.size, rfl, ?_, by omega, ?_, hcm2⟩, ?_, .inr ⟨rfl, ((Below.refl _ w).drew).alloc (by simp) _⟩⟩
      · exact (heap_new w.drew _).trans (by simp)
      · simp only [List.length_append, List.length_singleton, Array.length_toList, size_zeroCells, List.length_take]
        simp [Value.cells]; omega
      · rw [List.take_append_of_le_length (by simp; omega)]
        exact List.take_of_length_le (by simp; omega)

theorem wpList_append1 {w : World} {ops : Array Oper} {rest : List Oper} {o : Oper} {a : Act} {Q : Exit → Act → World → Prop} (hgd : o.guard = none) (s x : Operand)
    (ho : o.op = .call { callee := .builtin .append, args := #[s, x], argTypes := #[24, 24] }) (p : Option Addr) (n c : Nat) (cur : List Value) (hs : a.eval s = .slice p n c) (h : S1 w p n c cur)
    (bo : Addr) (v : Value) (hx : a.eval x = .slice (some bo) 1 1) (hv : w.cell? bo = some v) (h1 : v.oneCell' = true) (hn : n ≤ 140737488351232)
    (hK : ∀ a' c' cur' w', S1 w' a' (n + 1) c' cur' → cur'.take (n + 1) = cur.take n ++ [v] → ((a' = p ∧ c' = c ∧ n < c ∧ ∀ g, p = some ⟨g, 0, none⟩ → Touch (fun k => k = g) w w') ∨ (a' = some ⟨w.heap.size, 0, none⟩ ∧ Below w.heap.size w w')) → wpList Tryz.prog ops Q rest (a.put o.dst (.slice a' (n + 1) c')) w') : wpList Tryz.prog ops Q (o :: rest) a w := by
  refine wpList_plain hgd fun _ hKK => ?_
  obtain ⟨a', c', cur', w', hr, h2, h3, h4⟩ := run_append1 w o.type p n c cur h bo v hv h1 hn
  exact Lib.wp_append_run w s x 24 24 ho _ _ hs hx _ w' hr (hKK _ _ (hK a' c' cur' w' h2 h3 h4))

end Go.Proofs.YthenakdfdpdknaaGreatDoor

/- A book of lists of bytes, in memory; conditions: those typed. -/
namespace Go.Proofs.YthenakdfdpdknaaGreatDoor
open Go.RowKit
set_option linter.unusedVariables false
set_option maxRecDepth 100000

/-- A slice of bytes, as a value. -/
structure Hd where
  a : Option Addr
  n : Nat
  c : Nat
def Hd.val (h : Hd) : Value := .slice h.a h.n h.c
/-- A list that was answered, what it is grown to, its number. -/
structure Hl where
  l : Hd
  g : Hd
  m : Nat
def Hl.cells (x : Hl) : List Value := [x.l.val, x.g.val, .int .i64 x.m]
def hcells (H : List Hl) : List Value := H.flatMap Hl.cells
theorem hcells_length (H : List Hl) : (hcells H).length = H.length * 3 := by
  induction H with
  | nil => rfl
  | cons x H ih => show (x.cells ++ hcells H).length = _; rw [List.length_append, ih]; show 3 + H.length * 3 = (H.length + 1) * 3; omega
theorem hcells_get (H : List Hl) (i : Nat) (hi : i < H.length) (j : Nat) (hj : j < 3) : (hcells H)[3 * i + j]? = (H[i].cells)[j]? := by
  induction H generalizing i with
  | nil => simp at hi
  | cons x H ih =>
    show (x.cells ++ hcells H)[3 * i + j]? = _
    have hx : x.cells.length = 3 := rfl
    cases i with
    | zero => rw [List.getElem?_append_left (by omega)]; simp
    | succ i =>
      rw [List.getElem?_append_right (by omega), hx, show 3 * (i + 1) + j - 3 = 3 * i + j by omega, ih i (by simpa using hi)]
      rfl
theorem hcells_snoc (H : List Hl) (x : Hl) : hcells (H ++ [x]) = hcells H ++ x.cells := by unfold hcells; simp
theorem hcells_set (H : List Hl) (i : Nat) (hi : i < H.length) (g : Hd) : hcells (H.set i { H[i] with g := g }) = (hcells H).set (3 * i + 1) g.val := by
  induction H generalizing i with
  | nil => simp at hi
  | cons x H ih =>
    cases i with
    | zero => rfl
    | succ i =>
      have hi' : i < H.length := by simpa using hi
      show x.cells ++ hcells (H.set i _) = (x.cells ++ hcells H).set (3 * (i + 1) + 1) g.val
      have e := ih i hi'
      rw [List.set_append_right _ _ (by show 3 ≤ _; omega)]
      rw [show 3 * (i + 1) + 1 - x.cells.length = 3 * i + 1 by show 3 * (i + 1) + 1 - 3 = _; omega, ← e]
      rfl

theorem infoHl : (Tryz.prog.info? 90).map (fun i => (i.zero, i.size, i.bytes)) = some (some (.agg #[.slice none 0 0, .slice none 0 0, .int .i64 0]), 3, 56) := by kernel_rfl
theorem rowHl : RowTy Tryz.prog 36 90 3 56 (.agg #[.slice none 0 0, .slice none 0 0, .int .i64 0]) := ⟨Tryz.underlying36, infoHl, rfl, by decide⟩

def mk (m : Nat) : UInt8 := UInt8.ofNat m
theorem mk_eq (m : Nat) : ((m : Int) % 256) = ((mk m).toNat : Int) := by simp [mk]
theorem markByte_any (m : Nat) (w : World) (hm : m < 4611686018427387904) : Calls Tryz.prog 73 #[.int .i64 m] w fun e w' => e = .returned (.int .u8 (mk m).toNat) ∧ w = w' := by
  have h := Lib.hid (mk_eq m)
  go_enter Tryz.func73, Tryz.ntmps73
  go_wp2
  go_ret
  exact ⟨by rw [h.out]; rfl, rfl⟩
theorem isByte_any (x : UInt8) (m : Nat) (w : World) (hm : m < 4611686018427387904) : Calls Tryz.prog 82 #[.int .u8 x.toNat, .int .i64 m] w fun e w' => e = .returned (.bool (decide (x = mk m))) ∧ w = w' := by
  have h := Lib.hid (mk_eq m)
  have hq : (((x.toNat : Int)) == ((mk m).toNat : Int)) = decide (x = mk m) := by
    rw [Bool.eq_iff_iff, beq_iff_eq, decide_eq_true_eq]
    exact ⟨fun h => UInt8.toNat_inj.1 (by omega), fun h => by rw [h]⟩
  have HQ := Lib.hid hq
  clear hq
  go_enter Tryz.func82, Tryz.ntmps82
  go_wp2
  go_ret
  exact ⟨by rw [h.out, HQ.out]; rfl, rfl⟩

/-- Where a list lies: its block begins with it, from B on. -/
def HOk (w : World) (B : Nat) (h : Hd) : Prop := ∃ cur, S1 w h.a h.n h.c cur ∧ ∀ g, h.a = some ⟨g, 0, none⟩ → B ≤ g
/-- All its bytes are x. -/
def HFill (w : World) (h : Hd) (x : UInt8) : Prop := ∀ i, i < h.n → ∃ g, h.a = some ⟨g, 0, none⟩ ∧ w.cell? ⟨g, i, none⟩ = some (.int .u8 x.toNat)
def bookC (N : Nat) (bs : Value) : Array Value := #[.int .i64 N, bs, .slice none 0 0, .slice none 0 0, .slice none 0 0, .slice none 0 0, .slice none 0 0, .slice none 0 0, .slice none 0 0, .slice none 0 0]
/-- A book in memory. -/
structure Bk (w : World) (B bk : Nat) (N : Nat) (bs : Value) (H : List Hl) : Prop where
  le : B ≤ bk
  book : w.heap[bk]? = some (.cells (bookC N bs) 46 (0, 0))
  row : w.ownsRow B 90 3 bs H.length (hcells H)
  ok : ∀ i (h : i < H.length), HOk w B H[i].l
  apart : ∀ i j (hi : i < H.length) (hj : j < H.length), i ≠ j → ∀ g, H[i].l.a = some ⟨g, 0, none⟩ → H[j].l.a ≠ some ⟨g, 0, none⟩
  num : ∀ i (h : i < H.length), H[i].m < 4611686018427387904
  few : H.length ≤ 1000000

/-- Blocks of other kinds than a book's. -/
def Other (w : World) (S : Nat → Prop) : Prop := ∀ k, S k → ∀ cur t fz, w.heap[k]? = some (.cells cur t fz) → t ≠ 5 ∧ t ≠ 90 ∧ t ≠ 46
theorem S1.touch {S : Nat → Prop} {w w' : World} {a : Option Addr} {n c : Nat} {cur : List Value} (h : S1 w a n c cur) (ht : Touch S w w') (hs : ∀ g, a = some ⟨g, 0, none⟩ → ¬ S g) : S1 w' a n c cur := by
  rcases h with h | ⟨g, rfl, hg, h1, h2, h3⟩
  · exact .inl h
  · exact .inr ⟨g, rfl, ht.heap hg (hs g rfl), h1, h2, h3⟩
theorem HOk.touch {S : Nat → Prop} {w w' : World} {B : Nat} {h : Hd} (hh : HOk w B h) (ht : Touch S w w') (hs : ∀ g, h.a = some ⟨g, 0, none⟩ → ¬ S g) : HOk w' B h := by
  obtain ⟨cur, h1, h2⟩ := hh
  exact ⟨cur, h1.touch ht hs, h2⟩
theorem Bk.touch {S : Nat → Prop} {w w' : World} {B bk : Nat} {N : Nat} {bs : Value} {H : List Hl} (h : Bk w B bk N bs H) (ht : Touch S w w') (hs : Other w S) : Bk w' B bk N bs H := by
  refine ⟨h.le, ht.heap h.book (fun e => (hs bk e _ _ _ h.book).2.2 rfl), owns_touch h.row ht (fun k hk e => ?_), fun i hi => (h.ok i hi).touch ht (fun g hg e => ?_), h.apart, h.num, h.few⟩
  · obtain ⟨cur, hc⟩ := owns_block h.row hk
    exact (hs k e _ _ _ hc).2.1 rfl
  · obtain ⟨cur, h1, _⟩ := h.ok i hi
    rcases h1 with ⟨h1, _⟩ | ⟨g', h1, hc, _⟩
    · rw [h1] at hg; cases hg
    · rw [h1] at hg; cases hg
      exact (hs g e _ _ _ hc).1 rfl
theorem Bk.below {w w' : World} {B bk : Nat} {N : Nat} {bs : Value} {H : List Hl} (h : Bk w B bk N bs H) (hb : Below w.heap.size w w') : Bk w' B bk N bs H := h.touch (Touch.of_below (S := fun _ => False) hb) (fun _ h => h.elim)

end Go.Proofs.YthenakdfdpdknaaGreatDoor

/- A book is told a list of bytes; conditions: those typed. -/
namespace Go.Proofs.YthenakdfdpdknaaGreatDoor
open Go.RowKit
set_option linter.unusedVariables false
set_option linter.unusedSimpArgs false
set_option maxRecDepth 100000

/-- The book's own blocks. -/
def BkS (w : World) (B k : Nat) : Prop := B ≤ k ∧ ∃ cur t fz, w.heap[k]? = some (.cells cur t fz) ∧ (t = 90 ∨ t = 46)

theorem At.row3 (w : World) (u v x : Value) (e : TypeId) : At (w.alloc (.cells #[u, v, x] e)) (some ⟨w.heap.size, 0, none⟩) [u, v, x] := At.of_cells fun j hj => by
  rw [cell_of_block (heap_new w _), Nat.zero_add]
  simp at hj
  match j, hj with
  | 0, _ => rfl
  | 1, _ => rfl
  | 2, _ => rfl
theorem one3 (a : Option Addr) (n c : Nat) (x : Int) : ∀ u ∈ [Value.slice a n c, .slice none 0 0, .int .i64 x], u.oneCell' = true := by intro v hv; simp at hv; rcases hv with rfl | rfl | rfl <;> rfl

theorem grown_touch {w u w' : World} {row : Option Nat} (hb : Below w.heap.size w u) (hg : u.grownBy w' row) : Touch (fun k => row = some k) w w' :=
  (Touch.of_below (S := fun k => row = some k) hb).grown hg (fun k hk => .inl hk)
theorem book_cell1 {w : World} {bk N : Nat} {bs : Value} (h : w.heap[bk]? = some (.cells (bookC N bs) 46 (0, 0))) : w.cell? ⟨bk, 1, none⟩ = some bs := by rw [cell_of_block h]; rfl
theorem book_frozen {w : World} {bk i : Nat} {C : Array Value} {t : TypeId} (h : w.heap[bk]? = some (.cells C t (0, 0))) : w.frozen? ⟨bk, i, none⟩ = false := by simp [World.frozen?, h]

theorem keep_end {w w1 w8 : World} {B bk N : Nat} {bo b8 : Option Addr} {bc c8 : Nat} {H : List Hl} {x : Hd} (h : Bk w B bk N (.slice bo H.length bc) H) (hx : HOk w B x) (hap : ∀ i (hi : i < H.length), ∀ g, H[i].l.a = some ⟨g, 0, none⟩ → x.a ≠ some ⟨g, 0, none⟩) (hN : N < 1000000) (hH : H.length < 1000000)
    (ht1 : Touch (fun k => k = bk) w w1) (ht8 : Touch (fun k => (Value.slice bo H.length bc).ownBlock = some k) w1 w8) (hb8 : w8.heap[bk]? = some (.cells (bookC (N + 1) (.slice bo H.length bc)) 46 (0, 0)))
    (hown : w8.ownsRow B 90 3 (.slice b8 (H.length + 1) c8) (H.length + 1) (hcells H ++ [.slice x.a x.n x.c, .slice none 0 0, .int .i64 ((N : Int) + 1)])) :
    Touch (BkS w B) w (w8.setCell ⟨bk, 1, none⟩ (.slice b8 (H.length + 1) c8)) ∧ Bk (w8.setCell ⟨bk, 1, none⟩ (.slice b8 (H.length + 1) c8)) B bk (N + 1) (.slice b8 (H.length + 1) c8) (H ++ [⟨x, ⟨none, 0, 0⟩, N + 1⟩]) := by
  have hS : Other w (fun k => False) := fun _ h => h.elim
  have hbkS : BkS w B bk := ⟨h.le, _, _, _, h.book, .inr rfl⟩
  have hrowS : ∀ k, (Value.slice bo H.length bc).ownBlock = some k → BkS w B k := fun k hk => by
    obtain ⟨cur, hc⟩ := owns_block h.row hk
    exact ⟨(h.row.lt k hk).1, cur, _, _, hc, .inl rfl⟩
  have hT : Touch (BkS w B) w (w8.setCell ⟨bk, 1, none⟩ (.slice b8 (H.length + 1) c8)) :=
    ((ht1.weaken (fun k _ hk => by rw [hk]; exact hbkS)).trans (ht8.weaken (fun k _ hk => hrowS k hk))).setCell _ _ (.inl hbkS)
  have hlists : ∀ {y : Hd}, HOk w B y → HOk (w8.setCell ⟨bk, 1, none⟩ (.slice b8 (H.length + 1) c8)) B y := fun hy => hy.touch hT (fun g hg e => by
    obtain ⟨cur, h1, _⟩ := hy
    rcases h1 with ⟨h1, _⟩ | ⟨g', h1, hc, _⟩
    · rw [h1] at hg; cases hg
    · rw [h1] at hg; cases hg
      obtain ⟨_, cur', t, fz, hc', ht⟩ := e
      rw [hc] at hc'
      cases hc'
      revert ht; decide)
  refine ⟨hT, ⟨h.le, ?_, ?_, fun i hi => ?_, fun i j hi hj hij g hg => ?_, fun i hi => ?_, by simp; omega⟩⟩
  · rw [heap_setCell_same _ _ _ _ _ _ hb8]; rfl
  · rw [List.length_append, List.length_singleton, hcells_snoc]
    have ht9 : Touch (fun k => k = bk) w8 (w8.setCell ⟨bk, 1, none⟩ (.slice b8 (H.length + 1) c8)) := (Touch.refl _ _).setCell _ _ (.inl rfl)
    refine owns_touch ?_ ht9 (fun k hk e => ?_)
    · have e1 : (Hl.cells ⟨x, ⟨none, 0, 0⟩, N + 1⟩) = [.slice x.a x.n x.c, .slice none 0 0, .int .i64 ((N : Int) + 1)] := by simp [Hl.cells, Hd.val]
      rw [e1]; exact hown
    · obtain ⟨cur, hc⟩ := owns_block hown hk
      rw [e, hb8] at hc
      have := (Obj.cells.inj (Option.some.inj hc)).2.1
      revert this; decide
  · by_cases hil : i < H.length
    · rw [List.getElem_append_left hil]; exact hlists (h.ok i hil)
    · have : i = H.length := by simp at hi; omega
      subst this
      rw [List.getElem_append_right (Nat.le_refl _)]
      simp; exact hlists hx
  · by_cases hil : i < H.length
    · rw [List.getElem_append_left hil] at hg
      by_cases hjl : j < H.length
      · rw [List.getElem_append_left hjl]; exact h.apart i j hil hjl hij g hg
      · have : j = H.length := by simp at hj; omega
        subst this
        rw [List.getElem_append_right (Nat.le_refl _)]
        simp; exact hap i hil g hg
    · have : i = H.length := by simp at hi; omega
      subst this
      rw [List.getElem_append_right (Nat.le_refl _)] at hg
      simp at hg
      have hjl : j < H.length := by simp at hj; omega
      rw [List.getElem_append_left hjl]
      intro hg2
      exact hap j hjl g hg2 hg
  · by_cases hil : i < H.length
    · rw [List.getElem_append_left hil]; exact h.num i hil
    · have : i = H.length := by simp at hi; omega
      subst this
      rw [List.getElem_append_right (Nat.le_refl _)]
      simp; omega

set_option maxHeartbeats 4000000 in
theorem keepByte_any (w : World) (B bk N : Nat) (bs : Value) (H : List Hl) (h : Bk w B bk N bs H) (x : Hd) (hx : HOk w B x) (hap : ∀ i (hi : i < H.length), ∀ g, H[i].l.a = some ⟨g, 0, none⟩ → x.a ≠ some ⟨g, 0, none⟩) (hN : N < 1000000) (hH : H.length < 1000000) :
    Calls Tryz.prog 35 #[.pointer (some ⟨bk, 0, none⟩), x.val] w fun e w' => e = .returned (.tuple #[]) ∧ Touch (BkS w B) w w' ∧ ∃ bs', Bk w' B bk (N + 1) bs' (H ++ [⟨x, ⟨none, 0, 0⟩, N + 1⟩]) := by
  obtain ⟨bo, bc, rfl⟩ := owns_shape h.row
  unfold Hd.val
  have f0 : w.cell? ⟨bk, 0, none⟩ = some (.int .i64 N) := by rw [cell_of_block h.book]; rfl
  have ff : w.frozen? ⟨bk, 0, none⟩ = false := by simp [World.frozen?, h.book]
  have ht1 : Touch (fun k => k = bk) w (w.setCell ⟨bk, 0, none⟩ (.int .i64 ((N : Int) + 1))) := (Touch.refl _ _).setCell _ _ (.inl rfl)
  have hb1 : (w.setCell ⟨bk, 0, none⟩ (.int .i64 ((N : Int) + 1))).heap[bk]? = some (.cells (bookC (N + 1) (.slice bo H.length bc)) 46 (0, 0)) := by rw [heap_setCell_same _ _ _ _ _ _ h.book]; rfl
  have hrow1 : (w.setCell ⟨bk, 0, none⟩ (.int .i64 ((N : Int) + 1))).ownsRow B 90 3 (.slice bo H.length bc) H.length (hcells H) := owns_touch h.row ht1 (fun k hk e => by
    obtain ⟨cur, hc⟩ := owns_block h.row hk
    rw [e, h.book] at hc
    have := (Obj.cells.inj (Option.some.inj hc)).2.1
    revert this; decide)
  have HH := Lib.hid h
  go_enter Tryz.func35, Tryz.ntmps35
  go_wp2
  generalize w.setCell ⟨bk, 0, none⟩ (.int .i64 ((N : Int) + 1)) = w1 at ht1 hb1 hrow1 ⊢
  have g0 : w1.cell? ⟨bk, 0, none⟩ = some (.int .i64 ((N : Int) + 1)) := by rw [cell_of_block hb1]; simp [bookC]
  have g1 : w1.cell? ⟨bk, 1, none⟩ = some (.slice bo H.length bc) := by rw [cell_of_block hb1]; rfl
  have k0 : (w1.alloc (.cells #[.slice x.a x.n x.c, .slice none 0 0, .int .i64 ((N : Int) + 1)] 90)).drew.cell? ⟨bk, 0, none⟩ = some (.int .i64 ((N : Int) + 1)) := cell_later (((Below.refl _ _).alloc (Nat.le_refl _) _).drew) g0
  have k1 : (w1.alloc (.cells #[.slice x.a x.n x.c, .slice none 0 0, .int .i64 ((N : Int) + 1)] 90)).drew.cell? ⟨bk, 1, none⟩ = some (.slice bo H.length bc) := cell_later (((Below.refl _ _).alloc (Nat.le_refl _) _).drew) g1
  have HR := Lib.hid hrow1
  have HB := Lib.hid hb1
  have HT := Lib.hid ht1
  have hfew := Lib.hid h.few
  have hle := Lib.hid h.le
  have hsz : Hid (B ≤ w1.heap.size) := Lib.hid (Nat.le_trans h.le (Nat.le_of_lt (lt_of_heap hb1)))
  have hnb : Hid (∀ k, (Value.slice bo H.length bc).ownBlock = some k → ¬ (bk = k)) := Lib.hid (fun k hk e => by
    obtain ⟨cur, hc⟩ := owns_block HR.out hk
    rw [← e, HB.out] at hc
    have := (Obj.cells.inj (Option.some.inj hc)).2.1
    revert this; decide)
  clear f0 ff ht1 hb1 hrow1 h
  go_region_law (first
    | (refine step_append_any rowHl rfl (.tmp 15) (.tmp 22) (by rfl) B (.slice bo H.length bc) H.length (hcells H) (by simp [Act.eval, Act.put]) (owns_below HR.out (by first | exact ((Below.refl _ _).alloc (Nat.le_refl _) _).drew | exact ((Below.refl _ _).drew).alloc (by simp) _ | exact ((Below.refl _ _).alloc (Nat.le_refl _) _))) (some ⟨w1.heap.size, 0, none⟩) 1 1 [.slice x.a x.n x.c, .slice none 0 0, .int .i64 ((N : Int) + 1)] (by simp [Act.eval, Act.put]) rfl (At.row3 _ _ _ _ _) (one3 _ _ _ _) (by unfold maxLen; omega) (by omega) (Nat.le_trans hsz.out (by simp)) ?_; intro b8 c8 w8 hown8 hg8 hat8; have hT8 : Touch (fun k => (Value.slice bo H.length bc).ownBlock = some k) w1 w8 := grown_touch (by first | exact ((Below.refl _ _).alloc (Nat.le_refl _) _).drew | exact ((Below.refl _ _).drew).alloc (by simp) _ | exact ((Below.refl _ _).alloc (Nat.le_refl _) _)) hg8; have hb8 := hT8.heap HB.out (fun e => hnb.out bk e rfl); have q1 : w8.cell? ⟨bk, 1, none⟩ = some (.slice bo H.length bc) := book_cell1 hb8; have qf : w8.frozen? ⟨bk, 1, none⟩ = false := book_frozen hb8)
    | fail)
  all_goals
    have E := keep_end HH.out hx hap hN hH HT.out hT8 hb8 hown8
    clear hg8 hat8 hown8 hT8 hb8 q1 qf
    go_end0
    exact ⟨rfl, E.1, _, E.2⟩

end Go.Proofs.YthenakdfdpdknaaGreatDoor

/- Large values in memory: laws of our own; no program in sight. -/
namespace Go.Proofs.YthenakdfdpdknaaGreatDoor
open Go.RowKit
set_option linter.unusedVariables false

theorem modify_push {α : Type} (a : Array α) (x : α) (f : α → α) : (a.push x).modify a.size f = a.push (f x) := by
  apply Array.ext
  · simp
  · intro i h1 h2
    simp only [Array.getElem_modify, Array.getElem_push]
    by_cases h : a.size = i
    · subst h
      simp
    · have hi : i < a.size := by simp at h1; omega
      simp [h, hi]
theorem setRow_alloc (w : World) (Z C : Array Value) (t : TypeId) (fz : Nat × Nat) : (w.alloc (.cells Z t fz)).setRow w.heap.size C = w.alloc (.cells C t fz) := by
  unfold World.setRow
  show ({ w.alloc (.cells Z t fz) with heap := (w.heap.push (.cells Z t fz)).modify w.heap.size _ } : World) = _
  rw [modify_push]
  rfl
theorem setCells_alloc (P : Program) (w : World) (Z C : Array Value) (t : TypeId) (hs : C.size = Z.size) (h1 : ∀ v ∈ C.toList, v.oneCell' = true) : (w.alloc (.cells Z t)).setCells w.heap.size 0 C.toList = w.alloc (.cells C t) := by
  rw [setCells_row P (w.alloc (.cells Z t)) w.heap.size 0 C.toList Z t (heap_new w _) (by simp; omega) h1, setRow_alloc]
  congr 3
  simp
  omega

/-- 'x := v': a new variable, and what is laid in it. -/
theorem wpList_declare {P : Program} {w : World} {ops : Array Oper} {rest : List Oper} {o1 o2 : Oper} {a : Act} {Q : Exit → Act → World → Prop} (g1 : o1.guard = none) (g2 : o2.guard = none) (t : TypeId) (h1 : o1.op = .alloc t) (x y : Operand) (h2 : o2.op = .store t x y)
    (z : Value) (hz : (P.info? t).map (·.zero) = some (some z)) (cells : Array Value) (hzs : z.cells.size = cells.size) (hi : (P.info? t).map (·.size) = some cells.size)
    (hx : (a.put o1.dst (.pointer (some ⟨w.heap.size, 0, none⟩))).eval x = .pointer (some ⟨w.heap.size, 0, none⟩)) (hy : (a.put o1.dst (.pointer (some ⟨w.heap.size, 0, none⟩))).eval y = .agg cells) (hone : ∀ v ∈ cells.toList, v.oneCell' = true)
    (h : wpList P ops Q rest ((a.put o1.dst (.pointer (some ⟨w.heap.size, 0, none⟩))).put o2.dst undef) (w.alloc (.cells cells t))) : wpList P ops Q (o1 :: o2 :: rest) a w := by
  refine wpList_alloc_any g1 t h1 z hz z.cells rfl ?_
  refine wpList_store_mid g2 t x y h2 w.heap.size 0 cells hx hy ?_ hi ?_ ?_
  · exact there_row (heap_new w _) 0 cells.size (by omega)
  · have := all_oneCell_toArray hone
    simpa using this
  · rw [setCells_alloc P w z.cells cells t hzs.symm hone]
    exact h

/-- A block's cells from o on. -/
theorem rangeAt_mid {w : World} {g o : Nat} {C : Array Value} {cs : List Value} {t : TypeId} {fr : Nat × Nat} (hg : w.heap[g]? = some (.cells C t fr)) (hc : (C.toList.drop o).take cs.length = cs) : w.rangeAt g o cs := by
  intro j v hv
  rw [cell_of_block hg]
  have hj := (List.getElem?_eq_some_iff.1 hv).1
  have : ((C.toList.drop o).take cs.length)[j]? = some v := by rw [hc]; exact hv
  rw [List.getElem?_take, if_pos hj, List.getElem?_drop] at this
  simpa using this

end Go.Proofs.YthenakdfdpdknaaGreatDoor

/- A book fills its lists of bytes; conditions: those typed. -/
namespace Go.Proofs.YthenakdfdpdknaaGreatDoor
open Go.RowKit
set_option linter.unusedVariables false
set_option linter.unusedSimpArgs false
set_option maxRecDepth 100000

theorem Bk.list_at {w : World} {B bk N : Nat} {bs : Value} {H : List Hl} (h : Bk w B bk N bs H) (j : Nat) (hj : j < H.length) (k : Nat) (hk : k < H[j].l.n) :
    ∃ g cur, H[j].l.a = some ⟨g, 0, none⟩ ∧ w.heap[g]? = some (.cells cur 5 (0, 0)) ∧ k < cur.size ∧ B ≤ g := by
  obtain ⟨cur, h1, h2⟩ := h.ok j hj
  rcases h1 with ⟨_, h1, _⟩ | ⟨g, h1, hc, h3, h4, _⟩
  · omega
  · exact ⟨g, _, h1, hc, by simp; omega, h2 g h1⟩
/-- A byte of a list is laid. -/
theorem Bk.store {w : World} {B bk N : Nat} {bs : Value} {H : List Hl} (h : Bk w B bk N bs H) (j : Nat) (hj : j < H.length) (k g : Nat) (hk : k < H[j].l.n) (hg : H[j].l.a = some ⟨g, 0, none⟩) (v : Value) : Bk (w.setCell ⟨g, k, none⟩ v) B bk N bs H := by
  obtain ⟨g', cur, e1, hc, hkc, hB⟩ := h.list_at j hj k hk
  rw [hg] at e1
  cases e1
  have ht : Touch (fun x => x = g) w (w.setCell ⟨g, k, none⟩ v) := (Touch.refl _ _).setCell _ _ (.inl rfl)
  refine ⟨h.le, ht.heap h.book (fun e => ?_), owns_touch h.row ht (fun x hx e => ?_), fun i hi => ?_, h.apart, h.num, h.few⟩
  · have hb := h.book
    rw [e, hc] at hb
    have := (Obj.cells.inj (Option.some.inj hb)).2.1
    revert this; decide
  · obtain ⟨cur2, hc2⟩ := owns_block h.row hx
    rw [e, hc] at hc2
    have := (Obj.cells.inj (Option.some.inj hc2)).2.1
    revert this; decide
  · by_cases hij : i = j
    · subst hij
      obtain ⟨cur3, s1, s2⟩ := h.ok i hi
      rcases s1 with ⟨s1, _⟩ | ⟨g3, s1, hc3, s4, s5, s6⟩
      · rw [hg] at s1; cases s1
      · rw [hg] at s1; cases s1
        rw [hc] at hc3
        refine ⟨cur3.set k v, .inr ⟨g, hg, ?_, s4, by simpa using s5, s6⟩, s2⟩
        rw [heap_setCell_same _ _ _ _ _ _ hc]
        have : cur = cur3.toArray := (Obj.cells.inj (Option.some.inj hc3)).1
        subst this
        simp
    · exact (h.ok i hi).touch ht (fun x hx e => h.apart j i hj hi (Ne.symm hij) g hg (by rw [hx, e]))
theorem HFill.store {w : World} {y : Hd} {x : UInt8} (h : HFill w y x) (g k : Nat) (v : Value) (hne : y.a ≠ some ⟨g, 0, none⟩) : HFill (w.setCell ⟨g, k, none⟩ v) y x := fun i hi => by
  obtain ⟨g2, e, hc⟩ := h i hi
  refine ⟨g2, e, ?_⟩
  rw [World.cell?_setCell_far _ _ _ _ (by intro e2; exact hne (by rw [e]; dsimp only at e2; rw [e2]))]
  exact hc
theorem HFill.below {w w' : World} {y : Hd} {x : UInt8} (h : HFill w y x) (hb : Below w.heap.size w w') : HFill w' y x := fun i hi => by
  obtain ⟨g2, e, hc⟩ := h i hi
  exact ⟨g2, e, cell_later hb hc⟩
theorem Bk.row_at {w : World} {B bk N : Nat} {bs : Value} {H : List Hl} (h : Bk w B bk N bs H) (hn : 0 < H.length) : ∃ gr c cur, bs = .slice (some ⟨gr, 0, none⟩) H.length c ∧ H.length ≤ c ∧ c ≤ maxLen ∧ w.heap[gr]? = some (.cells cur 90 (0, 0)) ∧ ∀ j (hj : j < H.length), w.rangeAt gr (j * 3) H[j].cells := by
  rcases h.row.2 with ⟨_, h0⟩ | ⟨gr, c, cur, hv, _, hg, hnc, hcm, hcs, htk⟩
  · omega
  · refine ⟨gr, c, cur, hv, hnc, hcm, hg, fun j hj x v hx => ?_⟩
    rw [cell_of_block hg]
    have hx3 : x < 3 := by have := (List.getElem?_eq_some_iff.1 hx).1; exact this
    have e : (cur.toList.take (H.length * 3))[j * 3 + x]? = some v := by
      rw [htk, Nat.mul_comm j 3, hcells_get H j hj x hx3]; exact hx
    rw [List.getElem?_take] at e
    split at e
    · simpa using e
    · cases e
theorem infoHl3 : (Tryz.prog.info? 90).map (·.size) = some 3 := by kernel_rfl

set_option maxHeartbeats 4000000 in
theorem fillByte_any (w : World) (B bk N : Nat) (bs : Value) (H : List Hl) (h : Bk w B bk N bs H) :
    Calls Tryz.prog 38 #[.pointer (some ⟨bk, 0, none⟩)] w fun e w' => e = .returned (.tuple #[]) ∧ Below B w w' ∧ Bk w' B bk N bs H ∧ ∀ i (hi : i < H.length), HFill w' H[i].l (mk H[i].m) := by
  have hfew := h.few
  obtain ⟨bo, bc, rfl⟩ := owns_shape h.row
  have HH := Lib.hid h
  clear h
  go_enter Tryz.func38, Tryz.ntmps38
  go_wp2
  obtain ⟨M, hM⟩ : ∃ M, M = H.length := ⟨_, rfl⟩
  have HM := Lib.hid hM
  clear hM
  go_loopw [2] (fun i wr => ∃ j : Nat, j ≤ H.length ∧ i = .int .i64 j ∧ Hid (Below B w wr) ∧ Hid (Bk wr B bk N (.slice bo H.length bc) H) ∧ Hid (∀ i (hi : i < H.length), i < j → HFill wr H[i].l (mk H[i].m))) (fun i _ => M - (intOf i).toNat)
  case atStart => exact ⟨0, Nat.zero_le _, rfl, Lib.hid (Below.refl _ _), HH, Lib.hid (fun i hi h => by omega)⟩
  case round =>
    obtain ⟨j, hj, rfl, HB, HK, HF⟩ := hrel
    have f1 : wr.cell? ⟨bk, 1, none⟩ = some (.slice bo H.length bc) := book_cell1 HK.out.book
    by_cases hlt : j < H.length
    · obtain ⟨gr, c, cur, hbs, hnc, hcm, hgr, hra⟩ := HK.out.row_at (by omega)
      obtain ⟨rfl, rfl⟩ : bo = some ⟨gr, 0, none⟩ ∧ bc = c := by simpa using hbs
      obtain ⟨xa, xn, xc, ya, yn, yc, m, E⟩ : ∃ xa xn xc ya yn yc m, Hid (xa = H[j].l.a ∧ xn = H[j].l.n ∧ xc = H[j].l.c ∧ ya = H[j].g.a ∧ yn = H[j].g.n ∧ yc = H[j].g.c ∧ m = H[j].m) := ⟨_, _, _, _, _, _, _, Lib.hid ⟨rfl, rfl, rfl, rfl, rfl, rfl, rfl⟩⟩
      have RA : Hid (wr.rangeAt gr (j * 3) [.slice xa xn xc, .slice ya yn yc, .int .i64 m]) := Lib.hid (by obtain ⟨e1, e2, e3, e4, e5, e6, e7⟩ := E.out; rw [e1, e2, e3, e4, e5, e6, e7]; exact hra j hlt)
      have hm62 : m < 4611686018427387904 := by rw [E.out.2.2.2.2.2.2]; exact HK.out.num j hlt
      have hxn : xn ≤ maxLen := by
        obtain ⟨cur3, s1, _⟩ := HK.out.ok j hlt
        rw [E.out.2.1]
        rcases s1 with ⟨_, s1, _⟩ | ⟨_, _, _, s4, s5, s6⟩
        · rw [s1]; exact Nat.zero_le _
        · exact Nat.le_trans s4 s6
      have hxm : (xn : Int) ≤ 9223372036854775807 := by unfold maxLen at hxn; omega
      clear hbs hra
      go_wp2_with (first
        | (refine wpList_load_mid rfl 90 (.tmp 19) rfl gr (j * 3) rfl [.slice xa xn xc, .slice ya yn yc, .int .i64 m] _ RA.out Tryz.underlying90 rfl infoHl3 ?_)
        | fail)
      have hv := heap_new wr (.cells #[.slice xa xn xc, .slice ya yn yc, .int .i64 m] 90 (0, 0))
      have hbv : Below wr.heap.size wr (wr.alloc (.cells #[.slice xa xn xc, .slice ya yn yc, .int .i64 m] 90)) := (Below.refl _ _).alloc (Nat.le_refl _) _
      have hBw : B ≤ wr.heap.size := Nat.le_trans HK.out.le (Nat.le_of_lt (lt_of_heap HK.out.book))
      generalize wr.alloc (.cells #[.slice xa xn xc, .slice ya yn yc, .int .i64 m] 90) = w1 at hv hbv ⊢
      have HB1 := Lib.hid (HB.out.trans (hbv.mono hBw))
      have HK1 := Lib.hid (HK.out.below hbv)
      have HF1 : Hid (∀ i (hi : i < H.length), i < j → HFill w1 H[i].l (mk H[i].m)) := Lib.hid (fun i hi h => (HF.out i hi h).below hbv)
      have HV1 := Lib.hid hv
      obtain ⟨hv0, hhv⟩ : ∃ hv0, hv0 = wr.heap.size := ⟨_, rfl⟩
      rw [← hhv] at HV1 ⊢
      clear hv hbv hBw HB HK HF f1 hhv hgr
      obtain ⟨P, hP⟩ : ∃ P, P = xn := ⟨_, rfl⟩
      have HP := Lib.hid hP
      clear hP
      go_loopw [4] (fun i2 wk => ∃ k : Nat, k ≤ xn ∧ i2 = .int .i64 k ∧ Hid (Below B w wk) ∧ Hid (Bk wk B bk N (.slice (some ⟨gr, 0, none⟩) H.length bc) H) ∧ Hid (∀ i (hi : i < H.length), i < j → HFill wk H[i].l (mk H[i].m)) ∧ Hid (∀ x, x < k → ∃ g, xa = some ⟨g, 0, none⟩ ∧ wk.cell? ⟨g, x, none⟩ = some (.int .u8 (mk m).toNat)) ∧ Hid (wk.heap[hv0]? = some (.cells #[.slice xa xn xc, .slice ya yn yc, .int .i64 m] 90 (0, 0)))) (fun i2 _ => P - (intOf i2).toNat)
      case atStart => exact ⟨0, Nat.zero_le _, rfl, HB1, HK1, HF1, Lib.hid (fun x hx => by omega), HV1⟩
      case round =>
        clear HB1 HK1 HF1 HV1
        obtain ⟨k, hk, rfl, HB, HK, HF, HX, HV⟩ := hrel
        have v0 : wr.cell? ⟨hv0, 0, none⟩ = some (.slice xa xn xc) := by rw [cell_of_block HV.out]; rfl
        have v2 : wr.cell? ⟨hv0, 2, none⟩ = some (.int .i64 m) := by rw [cell_of_block HV.out]; rfl
        by_cases hkl : k < xn
        · obtain ⟨g, cur, hga, hgc, hgk, hgB⟩ := HK.out.list_at j hlt k (by rw [← E.out.2.1]; exact hkl)
          have hxa : xa = some ⟨g, 0, none⟩ := by rw [E.out.1]; exact hga
          subst hxa
          obtain ⟨u, c1⟩ : ∃ u, wr.cell? ⟨g, k, none⟩ = some u := by rw [cell_of_block hgc]; exact ⟨_, Array.getElem?_eq_getElem hgk⟩
          have c1' : wr.drew.cell? ⟨g, k, none⟩ = some u := c1
          have c2 : wr.frozen? ⟨g, k, none⟩ = false := book_frozen hgc
          have c2' : wr.drew.frozen? ⟨g, k, none⟩ = false := c2
          have hne : g ≠ hv0 := fun e => by
            have hv := HV.out
            rw [← e, hgc] at hv
            have := (Obj.cells.inj (Option.some.inj hv)).2.1
            revert this; decide
          have v0d : wr.drew.cell? ⟨hv0, 0, none⟩ = some (.slice (some ⟨g, 0, none⟩) xn xc) := v0
          have v2d : wr.drew.cell? ⟨hv0, 2, none⟩ = some (.int .i64 m) := v2
          go_wp2
          go_region_held3 (fun w' => w'.cell? ⟨hv0, 0, none⟩ = some (.slice (some ⟨g, 0, none⟩) xn xc) ∧ w'.cell? ⟨hv0, 2, none⟩ = some (.int .i64 m)) (first
              | with_reducible exact ⟨v0d, v2d⟩
              | exact ⟨(World.cell?_setCell_far wr ⟨g, k, none⟩ ⟨hv0, 0, none⟩ _ hne).trans v0, (World.cell?_setCell_far wr ⟨g, k, none⟩ ⟨hv0, 2, none⟩ _ hne).trans v2⟩) (first
            | (go_at_call 73; ((with_reducible refine (markByte_any m wr.drew hm62).mono ?_); rintro e w3 ⟨rfl, rfl⟩))
            | fail)
          have hdr := (Below.refl (wr.setCell ⟨g, k, none⟩ (.int .u8 (mk m).toNat)).heap.size (wr.setCell ⟨g, k, none⟩ (.int .u8 (mk m).toNat))).drew
          have HB2 := Lib.hid ((HB.out.setCell (p := ⟨g, k, none⟩) hgB (.int .u8 (mk m).toNat)).drew)
          have HK2 := Lib.hid ((HK.out.store j hlt k g (by rw [← E.out.2.1]; exact hkl) hga (.int .u8 (mk m).toNat)).below hdr)
          have HF2 : Hid (∀ i (hi : i < H.length), i < j → HFill ((wr.setCell ⟨g, k, none⟩ (.int .u8 (mk m).toNat)).drew) H[i].l (mk H[i].m)) := Lib.hid (fun i hi h => ((HF.out i hi h).store g k _ (HK.out.apart j i hlt hi (by omega) g hga)).below hdr)
          have HX2 : Hid (∀ x, x < k + 1 → ∃ g', (some ⟨g, 0, none⟩ : Option Addr) = some ⟨g', 0, none⟩ ∧ ((wr.setCell ⟨g, k, none⟩ (.int .u8 (mk m).toNat)).drew).cell? ⟨g', x, none⟩ = some (.int .u8 (mk m).toNat)) := Lib.hid (fun x hx => by
            refine ⟨g, rfl, ?_⟩
            by_cases hxk : x = k
            · subst hxk
              exact World.cell?_setCell_same' _ _ _ (by rw [c1]; rfl)
            · obtain ⟨g', e, hc⟩ := HX.out x (by omega)
              cases e
              exact (World.cell?_setCell_other _ _ _ _ (by intro e; cases e; exact hxk rfl)).trans hc)
          have HV2 : Hid (((wr.setCell ⟨g, k, none⟩ (.int .u8 (mk m).toNat)).drew).heap[hv0]? = some (.cells #[.slice (some ⟨g, 0, none⟩) xn xc, .slice ya yn yc, .int .i64 m] 90 (0, 0))) := Lib.hid ((Below.heap_setCell wr ⟨g, k, none⟩ _ hv0 (Ne.symm hne)).trans HV.out)
          clear hgc c1 c1' c2 c2' v0 v2 v0d v2d HB HK HF HX HV hdr hga
          generalize (wr.setCell ⟨g, k, none⟩ (.int .u8 (mk m).toNat)).drew = w3 at HB2 HK2 HF2 HX2 HV2 ⊢
          go_wp2
          go_roundw
          case rel => exact ⟨k + 1, by omega, by go_num, HB2, HK2, HF2, HX2, HV2⟩
          case measure => have := HP.out; simp [intOf]; omega
        · have hke : k = xn := by omega
          subst hke
          have HF2 : Hid (∀ i (hi : i < H.length), i < j + 1 → HFill wr H[i].l (mk H[i].m)) := Lib.hid (fun i hi h => by
            by_cases hij : i = j
            · subst hij
              intro x hx
              obtain ⟨e1, e2, _, _, _, _, e7⟩ := E.out
              rw [← e2] at hx
              rw [← e1, ← e7]
              exact HX.out x hx
            · exact HF.out i hi (by omega))
          clear HF HX HV
          go_wp2
          go_roundw
          case rel => exact ⟨j + 1, by omega, by go_num, HB, HK, HF2⟩
          case measure => have := HM.out; simp [intOf]; omega
    · have hjl : j = H.length := by omega
      subst hjl
      go_wp2
      go_end0
      exact ⟨rfl, HB.out, HK.out, fun i hi => HF.out i hi hi⟩

end Go.Proofs.YthenakdfdpdknaaGreatDoor

/- A list of bytes is grown; no program in sight but the types. -/
namespace Go.Proofs.YthenakdfdpdknaaGreatDoor
open Go.RowKit
set_option linter.unusedVariables false

def marks (k : Nat) (x : UInt8) : List Value := List.replicate k (.int .u8 x.toNat)
theorem marks_succ (k : Nat) (x : UInt8) : marks k x ++ [.int .u8 x.toNat] = marks (k + 1) x := by unfold marks; rw [← List.replicate_succ']
theorem HFill.of_take {w : World} {a : Option Addr} {n n2 c c2 : Nat} {cur : List Value} {x : UInt8} (h : S1 w a n c cur) (ht : cur.take n = marks n x) (hn : n2 ≤ n) : HFill w ⟨a, n2, c2⟩ x := fun i hi => by
  have hi' : i < n2 := hi
  rcases h with ⟨_, h0, _⟩ | ⟨g, rfl, hg, _, _, _⟩
  · omega
  · refine ⟨g, rfl, ?_⟩
    rw [cell_of_block hg]
    have e : (cur.take n)[i]? = (marks n x)[i]? := by rw [ht]
    rw [List.getElem?_take, if_pos (by omega)] at e
    have e2 : (marks n x)[i]? = some (.int .u8 x.toNat) := by unfold marks; rw [List.getElem?_replicate, if_pos (by omega)]
    rw [e2] at e
    simpa using e
theorem take_of_HFill {w : World} {h : Hd} {cur : List Value} {x : UInt8} (hs : S1 w h.a h.n h.c cur) (hf : HFill w h x) : cur.take h.n = marks h.n x := by
  rcases hs with ⟨_, h0, _, h1⟩ | ⟨g, ha, hg, h1, h2, _⟩
  · rw [h0]; rfl
  · apply List.ext_getElem?
    intro i
    by_cases hi : i < h.n
    · obtain ⟨g', e, hc⟩ := hf i hi
      rw [ha] at e
      cases e
      rw [cell_of_block hg] at hc
      rw [List.getElem?_take, if_pos hi]
      unfold marks
      rw [List.getElem?_replicate, if_pos hi]
      simpa using hc
    · rw [List.getElem?_eq_none (by simp; omega), List.getElem?_eq_none (by simp [marks]; omega)]

/-- A list l, grown by t marks, from the world W on. -/
def GrowSt (W w : World) (B : Nat) (l : Hd) (x : UInt8) (t : Nat) (a : Option Addr) (c : Nat) : Prop :=
  (∀ k, l.a = some ⟨k, 0, none⟩ → k < W.heap.size) ∧ Touch (fun k => l.a = some ⟨k, 0, none⟩) W w ∧ HOk w B l ∧ HFill w l x ∧ ∃ cur, S1 w a (l.n + t) c cur ∧ cur.take (l.n + t) = marks (l.n + t) x ∧
    ((a = l.a ∧ c = l.c) ∨ ∃ g, a = some ⟨g, 0, none⟩ ∧ W.heap.size ≤ g)
theorem GrowSt.start {W : World} {B : Nat} {l : Hd} {x : UInt8} (h : HOk W B l) (hf : HFill W l x) : GrowSt W W B l x 0 l.a l.c := by
  have h' := h
  obtain ⟨cur, s, _⟩ := h'
  refine ⟨fun k hk => ?_, Touch.refl _ _, h, hf, cur, s, take_of_HFill s hf, .inl ⟨rfl, rfl⟩⟩
  rcases s with ⟨s, _⟩ | ⟨g, s, hg, _⟩
  · rw [s] at hk; cases hk
  · rw [s] at hk; cases hk; exact lt_of_heap hg
theorem GrowSt.below {W w w' : World} {B : Nat} {l : Hd} {x : UInt8} {t : Nat} {a : Option Addr} {c : Nat} (h : GrowSt W w B l x t a c) (hb : Below w.heap.size w w') : GrowSt W w' B l x t a c := by
  obtain ⟨h0, h1, h2, h3, cur, h4, h5, h6⟩ := h
  have ht := Touch.of_below (S := fun _ => False) hb
  exact ⟨h0, h1.trans (Touch.of_below hb), h2.touch ht (fun _ _ => id), h3.below hb, cur, h4.touch ht (fun _ _ => id), h5, h6⟩
theorem GrowSt.step {W w w' : World} {B : Nat} {l : Hd} {x : UInt8} {t : Nat} {a a' : Option Addr} {c c' : Nat} {cur' : List Value} (h : GrowSt W w B l x t a c)
    (cur : List Value) (hs : S1 w a (l.n + t) c cur) (hs' : S1 w' a' (l.n + t + 1) c' cur') (ht' : cur'.take (l.n + t + 1) = cur.take (l.n + t) ++ [.int .u8 x.toNat])
    (hd : (a' = a ∧ c' = c ∧ l.n + t < c ∧ ∀ g, a = some ⟨g, 0, none⟩ → Touch (fun k => k = g) w w') ∨ (a' = some ⟨w.heap.size, 0, none⟩ ∧ Below w.heap.size w w')) : GrowSt W w' B l x (t + 1) a' c' := by
  obtain ⟨h0, h1, h2, h3, cur0, h4, h5, h6⟩ := h
  have hcc : cur.take (l.n + t) = cur0.take (l.n + t) := by
    rcases hs with ⟨e1, e2, _, e4⟩ | ⟨g, e1, hg, _⟩
    · rw [e2]; rfl
    · rcases h4 with ⟨f1, _⟩ | ⟨g', f1, hg', _⟩
      · rw [e1] at f1; cases f1
      · rw [e1] at f1; cases f1
        rw [hg] at hg'
        have := (Obj.cells.inj (Option.some.inj hg')).1
        have e : cur = cur0 := by simpa using this
        rw [e]
  have htk : cur'.take (l.n + (t + 1)) = marks (l.n + (t + 1)) x := by
    rw [show l.n + (t + 1) = l.n + t + 1 by omega, ht', hcc, h5, marks_succ]
  rcases hd with ⟨rfl, rfl, hlt, hT⟩ | ⟨rfl, hb⟩
  · rcases h6 with ⟨rfl, rfl⟩ | ⟨g, rfl, hg⟩
    · -- in the list's own block
      rcases hs' with ⟨_, e, _⟩ | ⟨g, ga, hgc, g1, g2, g3⟩
      · omega
      · have hTT := hT g ga
        refine ⟨h0, h1.trans (hTT.weaken (fun k _ hk => by rw [hk]; exact ga)), ?_, ?_, cur', .inr ⟨g, ga, hgc, g1, g2, g3⟩, htk, .inl ⟨rfl, rfl⟩⟩
        · obtain ⟨_, _, hB⟩ := h2
          exact ⟨cur', .inr ⟨g, ga, hgc, by omega, g2, g3⟩, hB⟩
        · exact HFill.of_take (c2 := l.c) (.inr ⟨g, ga, hgc, g1, g2, g3⟩) htk (by omega)
    · have hTT := hT g rfl
      have hlk : ∀ k, l.a = some ⟨k, 0, none⟩ → k ≠ g := fun k hk e => by have := h0 k hk; omega
      refine ⟨h0, h1.andThen hTT (fun k hk => .inr (by rw [hk]; exact hg)), h2.touch hTT (fun k hk e => hlk k hk e), fun i hi => ?_, cur', hs', htk, .inr ⟨g, rfl, hg⟩⟩
      obtain ⟨k, e, hc⟩ := h3 i hi
      exact ⟨k, e, hTT.cell hc (fun e2 => hlk k e e2)⟩
  · have ht := Touch.of_below (S := fun k => l.a = some ⟨k, 0, none⟩) hb
    refine ⟨h0, h1.trans ht, h2.touch (Touch.of_below (S := fun _ => False) hb) (fun _ _ => id), h3.below hb, cur', hs', htk, .inr ⟨_, rfl, h1.size⟩⟩

end Go.Proofs.YthenakdfdpdknaaGreatDoor

/- A book grows its lists of bytes; conditions: those typed. -/
namespace Go.Proofs.YthenakdfdpdknaaGreatDoor
open Go.RowKit
set_option linter.unusedVariables false
set_option linter.unusedSimpArgs false
set_option maxRecDepth 100000

theorem Bk.grown {W w : World} {B bk N : Nat} {bs : Value} {H : List Hl} (h : Bk W B bk N bs H) (j : Nat) (hj : j < H.length) {x : UInt8} {t : Nat} {a : Option Addr} {c : Nat} (hg : GrowSt W w B H[j].l x t a c) : Bk w B bk N bs H := by
  obtain ⟨h0, h1, h2, h3, _⟩ := hg
  have hu : ∀ k, H[j].l.a = some ⟨k, 0, none⟩ → ∃ cur, W.heap[k]? = some (.cells cur 5 (0, 0)) := fun k hk => by
    obtain ⟨cur, s, _⟩ := h.ok j hj
    rcases s with ⟨s, _⟩ | ⟨g, s, hg, _⟩
    · rw [s] at hk; cases hk
    · rw [s] at hk; cases hk; exact ⟨_, hg⟩
  refine ⟨h.le, h1.heap h.book (fun e => ?_), owns_touch h.row h1 (fun k hk e => ?_), fun i hi => ?_, h.apart, h.num, h.few⟩
  · obtain ⟨cur, hc⟩ := hu bk e
    have hb := h.book
    rw [hc] at hb
    have := (Obj.cells.inj (Option.some.inj hb)).2.1
    revert this; decide
  · obtain ⟨cur, hc⟩ := hu k e
    obtain ⟨cur2, hc2⟩ := owns_block h.row hk
    rw [hc] at hc2
    have := (Obj.cells.inj (Option.some.inj hc2)).2.1
    revert this; decide
  · by_cases hij : i = j
    · subst hij; exact h2
    · exact (h.ok i hi).touch h1 (fun g hg e => h.apart i j hi hj hij g hg e)
theorem HFill.grown {W w : World} {B : Nat} {l y : Hd} {x x' : UInt8} {t : Nat} {a : Option Addr} {c : Nat} (hg : GrowSt W w B l x t a c) (h : HFill W y x') (hne : ∀ k, y.a = some ⟨k, 0, none⟩ → l.a ≠ some ⟨k, 0, none⟩) : HFill w y x' := fun i hi => by
  obtain ⟨k, e, hc⟩ := h i hi
  exact ⟨k, e, hg.2.1.cell hc (fun e2 => hne k e e2)⟩
theorem setL (H : List Hl) (j : Nat) (hj : j < H.length) (g : Hd) (i : Nat) (hi : i < (H.set j { H[j] with g := g }).length) (hi' : i < H.length) : (H.set j { H[j] with g := g })[i].l = H[i].l ∧ (H.set j { H[j] with g := g })[i].m = H[i].m ∧ (i ≠ j → (H.set j { H[j] with g := g })[i].g = H[i].g) ∧ (i = j → (H.set j { H[j] with g := g })[i].g = g) := by
  rw [List.getElem_set]
  by_cases h : j = i
  · subst h; rw [if_pos rfl]; exact ⟨rfl, rfl, fun e => absurd rfl e, fun _ => rfl⟩
  · rw [if_neg h]; exact ⟨rfl, rfl, fun _ => rfl, fun e => absurd e.symm h⟩
theorem Bk.setG {w : World} {B bk N gr c : Nat} {H : List Hl} (h : Bk w B bk N (.slice (some ⟨gr, 0, none⟩) H.length c) H) (j : Nat) (hj : j < H.length) (g : Hd) :
    Bk (w.setCell ⟨gr, j * 3 + 1, none⟩ g.val) B bk N (.slice (some ⟨gr, 0, none⟩) H.length c) (H.set j { H[j] with g := g }) ∧ B ≤ gr ∧ (∃ cur, w.heap[gr]? = some (.cells cur 90 (0, 0)) ∧ j * 3 + 1 < cur.size) := by
  obtain ⟨hl, hr⟩ := h.row
  rcases hr with ⟨e, _⟩ | ⟨gr', cap, cur, e, hB, hg, hnc, hcm, hcs, htk⟩
  · cases e
  cases e
  have ht : Touch (fun k => k = gr) w (w.setCell ⟨gr, j * 3 + 1, none⟩ g.val) := (Touch.refl _ _).setCell _ _ (.inl rfl)
  have hsz : j * 3 + 1 < cur.size := by rw [hcs]; omega
  refine ⟨⟨h.le, ht.heap h.book (fun e => ?_), ?_, fun i hi => ?_, fun i k hi hk hik x hx => ?_, fun i hi => ?_, by simpa using h.few⟩, hB, cur, hg, hsz⟩
  · have hb := h.book
    rw [e, hg] at hb
    have := (Obj.cells.inj (Option.some.inj hb)).2.1
    revert this; decide
  · rw [List.length_set]
    refine ⟨by rw [hcells_length, List.length_set], .inr ⟨gr, c, cur.set (j * 3 + 1) g.val hsz, rfl, hB, ?_, hnc, hcm, by simpa using hcs, ?_⟩⟩
    · rw [heap_setCell_same _ _ _ _ _ _ hg]
      simp [Array.setIfInBounds, hsz]
    · rw [hcells_set H j hj g, ← htk, Nat.mul_comm 3 j]
      simp [List.take_set]
  · have hi' : i < H.length := by simpa using hi
    rw [(setL H j hj g i hi hi').1]
    exact (h.ok i hi').touch ht (fun x hx e => by
      obtain ⟨cur2, s, _⟩ := h.ok i hi'
      rcases s with ⟨s, _⟩ | ⟨g', s, hg', _⟩
      · rw [s] at hx; cases hx
      · rw [s] at hx; cases hx
        rw [e, hg] at hg'
        have := (Obj.cells.inj (Option.some.inj hg')).2.1
        revert this; decide)
  · have hi' : i < H.length := by simpa using hi
    have hk' : k < H.length := by simpa using hk
    rw [(setL H j hj g i hi hi').1] at hx
    rw [(setL H j hj g k hk hk').1]
    exact h.apart i k hi' hk' hik x hx
  · have hi' : i < H.length := by simpa using hi
    rw [(setL H j hj g i hi hi').2.1]
    exact h.num i hi'

/-- What is grown of the first j. -/
structure Grown (W w : World) (H : List Hl) (j : Nat) : Prop where
  low : ∀ i (hi : i < H.length), ∀ k, H[i].l.a = some ⟨k, 0, none⟩ → k < W.heap.size
  lists : ∀ i (hi : i < H.length), HFill w H[i].l (mk H[i].m)
  longs : ∀ i (hi : i < H.length), i < j → HFill w H[i].g (mk H[i].m) ∧ H[i].g.n = H[i].l.n + 40 ∧ ∀ k, H[i].g.a = some ⟨k, 0, none⟩ → H[i].l.a = some ⟨k, 0, none⟩ ∨ W.heap.size ≤ k
  size : W.heap.size ≤ w.heap.size

theorem grown_below {W w w' : World} {H : List Hl} {j : Nat} (h : Grown W w H j) (hb : Below w.heap.size w w') : Grown W w' H j :=
  ⟨h.low, fun i hi => (h.lists i hi).below hb, fun i hi hj => ⟨(h.longs i hi hj).1.below hb, (h.longs i hi hj).2⟩, Nat.le_trans h.size hb.size⟩
/-- One more list is grown. -/
theorem grown_step {W w w' : World} {B bk N gr c : Nat} {H : List Hl} {j : Nat} (h : Grown W w H j) (hk : Bk w B bk N (.slice (some ⟨gr, 0, none⟩) H.length c) H) (hgrW : gr < W.heap.size) (hj : j < H.length) {a : Option Addr} {c' : Nat} (hg : GrowSt w w' B H[j].l (mk H[j].m) 40 a c') :
    Grown W (w'.setCell ⟨gr, j * 3 + 1, none⟩ (Hd.val ⟨a, H[j].l.n + 40, c'⟩)) (H.set j { H[j] with g := ⟨a, H[j].l.n + 40, c'⟩ }) (j + 1) := by
  have hk' := hk.grown j hj hg
  obtain ⟨_, _, cur0, hgr, _⟩ := hk'.setG j hj ⟨a, H[j].l.n + 40, c'⟩
  have hcell : ∀ {y : Hd} {x : UInt8}, (∀ k, y.a = some ⟨k, 0, none⟩ → k ≠ gr) → HFill w' y x → HFill (w'.setCell ⟨gr, j * 3 + 1, none⟩ (Hd.val ⟨a, H[j].l.n + 40, c'⟩)) y x := fun hu hf i hi => by
    obtain ⟨k, e, hc⟩ := hf i hi
    exact ⟨k, e, (World.cell?_setCell_far _ _ _ _ (fun e2 => hu k e e2.symm)).trans hc⟩
  have hlu : ∀ i (hi : i < H.length), ∀ k, H[i].l.a = some ⟨k, 0, none⟩ → k ≠ gr := fun i hi k hk2 e => by
    obtain ⟨cur, s, _⟩ := hk'.ok i hi
    rcases s with ⟨s, _⟩ | ⟨g', s, hg', _⟩
    · rw [s] at hk2; cases hk2
    · rw [s] at hk2; cases hk2
      rw [e, hgr] at hg'
      have := (Obj.cells.inj (Option.some.inj hg')).2.1
      revert this; decide
  obtain ⟨g0, g1, g2, g3, cur, g4, g5, g6⟩ := hg
  have hgs : GrowSt w w' B H[j].l (mk H[j].m) 40 a c' := ⟨g0, g1, g2, g3, cur, g4, g5, g6⟩
  have hlong : HFill w' ⟨a, H[j].l.n + 40, c'⟩ (mk H[j].m) := HFill.of_take g4 g5 (Nat.le_refl _)
  have hlists : ∀ i (hi : i < H.length), HFill w' H[i].l (mk H[i].m) := fun i hi => by
    by_cases hij : i = j
    · subst hij; exact g3
    · exact (h.lists i hi).grown hgs (fun k hk2 => hk.apart i j hi hj hij k hk2)
  refine ⟨fun i hi k hk2 => ?_, fun i hi => ?_, fun i hi hij => ?_, ?_⟩
  · have hi' : i < H.length := by simpa using hi
    rw [(setL H j hj _ i hi hi').1] at hk2
    exact h.low i hi' k hk2
  · have hi' : i < H.length := by simpa using hi
    rw [(setL H j hj _ i hi hi').1, (setL H j hj _ i hi hi').2.1]
    exact hcell (hlu i hi') (hlists i hi')
  · have hi' : i < H.length := by simpa using hi
    obtain ⟨e1, e2, e3, e4⟩ := setL H j hj ⟨a, H[j].l.n + 40, c'⟩ i hi hi'
    rw [e1, e2]
    by_cases hj2 : i = j
    · subst hj2
      rw [e4 rfl]
      refine ⟨hcell (fun k hk2 => ?_) hlong, rfl, fun k hk2 => ?_⟩
      · rcases g6 with ⟨g6, _⟩ | ⟨g, g6, hW⟩
        · exact hlu i hi' k (by rw [← g6]; exact hk2)
        · have hk3 : a = some ⟨k, 0, none⟩ := hk2
          rw [g6] at hk3; cases hk3
          have := h.size
          omega
      · rcases g6 with ⟨g6, _⟩ | ⟨g, g6, hW⟩
        · exact .inl (by rw [← g6]; exact hk2)
        · have hk3 : a = some ⟨k, 0, none⟩ := hk2
          rw [g6] at hk3; cases hk3
          exact .inr (Nat.le_trans h.size hW)
    · rw [e3 hj2]
      obtain ⟨l1, l2, l3⟩ := h.longs i hi' (by omega)
      have hne : ∀ k, H[i].g.a = some ⟨k, 0, none⟩ → k ≠ gr ∧ H[j].l.a ≠ some ⟨k, 0, none⟩ := fun k hk2 => by
        rcases l3 k hk2 with l4 | l4
        · exact ⟨hlu i hi' k l4, hk.apart i j hi' hj hj2 k l4⟩
        · exact ⟨by omega, fun e => by have := h.low j hj k e; omega⟩
      exact ⟨hcell (fun k hk2 => (hne k hk2).1) (l1.grown hgs (fun k hk2 => (hne k hk2).2)), l2, l3⟩
  · have : (w'.setCell ⟨gr, j * 3 + 1, none⟩ (Hd.val ⟨a, H[j].l.n + 40, c'⟩)).heap.size = w'.heap.size := by simp [World.setCell]
    rw [this]
    exact Nat.le_trans h.size g1.size

set_option maxHeartbeats 4000000 in
theorem growByte_any (w : World) (B bk N : Nat) (bs : Value) (H : List Hl) (h : Bk w B bk N bs H) (hf : ∀ i (hi : i < H.length), HFill w H[i].l (mk H[i].m)) (hsm : ∀ i (hi : i < H.length), H[i].l.n ≤ 100000000) :
    Calls Tryz.prog 47 #[.pointer (some ⟨bk, 0, none⟩)] w fun e w' => e = .returned (.tuple #[]) ∧ Below B w w' ∧ ∃ H', H'.length = H.length ∧ Bk w' B bk N bs H' ∧ Grown w w' H' H.length ∧ ∀ i (hi : i < H'.length), H'[i].l.n ≤ 100000000 := by
  have hfew := h.few
  obtain ⟨bo, bc, rfl⟩ := owns_shape h.row
  have HG0 : Hid (Grown w w H 0) := Lib.hid ⟨fun i hi k hk => by
    obtain ⟨cur, s, _⟩ := h.ok i hi
    rcases s with ⟨s, _⟩ | ⟨g', s, hg', _⟩
    · rw [s] at hk; cases hk
    · rw [s] at hk; cases hk; exact lt_of_heap hg', hf, fun i hi hij => by omega, Nat.le_refl _⟩
  have HGR : Hid (∀ gr, bo = some ⟨gr, 0, none⟩ → 0 < H.length → gr < w.heap.size) := Lib.hid (fun gr e hn => by
    obtain ⟨gr', c, cur, e2, _, _, hgr, _⟩ := h.row_at hn
    rw [e] at e2
    cases e2
    exact lt_of_heap hgr)
  have HH := Lib.hid h
  have HSM := Lib.hid hsm
  clear h hf hsm
  go_enter Tryz.func47, Tryz.ntmps47
  go_wp2
  obtain ⟨M, hM⟩ : ∃ M, M = H.length := ⟨_, rfl⟩
  have HM := Lib.hid hM
  rw [← hM] at hfew
  clear hM
  go_loopw [2] (fun i wr => ∃ j : Nat, j ≤ M ∧ i = .int .i64 j ∧ Hid (Below B w wr) ∧ Hid (∃ H', H'.length = M ∧ Bk wr B bk N (.slice bo M bc) H' ∧ Grown w wr H' j ∧ ∀ i (hi : i < H'.length), H'[i].l.n ≤ 100000000)) (fun i _ => M - (intOf i).toNat)
  case atStart => exact ⟨0, Nat.zero_le _, rfl, Lib.hid (Below.refl _ _), Lib.hid ⟨H, HM.out.symm, by rw [HM.out]; exact HH.out, HG0.out, HSM.out⟩⟩
  case round =>
    obtain ⟨j, hj, rfl, HB, HX⟩ := hrel
    obtain ⟨H', hl', hk, hgn, hs'⟩ := HX.out
    have f1 : wr.cell? ⟨bk, 1, none⟩ = some (.slice bo M bc) := book_cell1 hk.book
    by_cases hlt : j < M
    · have hjH : j < H'.length := by omega
      obtain ⟨gr, c, cur, hbs, hnc, hcm, hgr, hra⟩ := hk.row_at (by omega)
      rw [hl'] at hbs hnc
      obtain ⟨rfl, rfl⟩ : bo = some ⟨gr, 0, none⟩ ∧ bc = c := by simpa using hbs
      have hgrW := HGR.out gr rfl (by have := HM.out; omega)
      obtain ⟨xa, xn, xc, ya, yn, yc, m, E⟩ : ∃ xa xn xc ya yn yc m, Hid (xa = H'[j].l.a ∧ xn = H'[j].l.n ∧ xc = H'[j].l.c ∧ ya = H'[j].g.a ∧ yn = H'[j].g.n ∧ yc = H'[j].g.c ∧ m = H'[j].m) := ⟨_, _, _, _, _, _, _, Lib.hid ⟨rfl, rfl, rfl, rfl, rfl, rfl, rfl⟩⟩
      have RA : Hid (wr.rangeAt gr (j * 3) [.slice xa xn xc, .slice ya yn yc, .int .i64 m]) := Lib.hid (by obtain ⟨e1, e2, e3, e4, e5, e6, e7⟩ := E.out; rw [e1, e2, e3, e4, e5, e6, e7]; exact hra j hjH)
      have hm62 : m < 4611686018427387904 := by rw [E.out.2.2.2.2.2.2]; exact hk.num j hjH
      have hxs : xn ≤ 100000000 := by rw [E.out.2.1]; exact hs' j hjH
      clear hbs hra hnc
      go_wp2_with (first
        | (refine wpList_load_mid rfl 90 (.tmp 20) rfl gr (j * 3) rfl [.slice xa xn xc, .slice ya yn yc, .int .i64 m] _ RA.out Tryz.underlying90 rfl infoHl3 ?_)
        | fail)
      have hv := heap_new wr (.cells #[.slice xa xn xc, .slice ya yn yc, .int .i64 m] 90 (0, 0))
      have hbv : Below wr.heap.size wr (wr.alloc (.cells #[.slice xa xn xc, .slice ya yn yc, .int .i64 m] 90)) := (Below.refl _ _).alloc (Nat.le_refl _) _
      have hBw : B ≤ wr.heap.size := Nat.le_trans hk.le (Nat.le_of_lt (lt_of_heap hk.book))
      generalize wr.alloc (.cells #[.slice xa xn xc, .slice ya yn yc, .int .i64 m] 90) = w1 at hv hbv ⊢
      have HB1 := Lib.hid (HB.out.trans (hbv.mono hBw))
      have HBw1 : Hid (B ≤ w1.heap.size) := Lib.hid (Nat.le_trans hBw hbv.size)
      have HK1 := Lib.hid (hk.below hbv)
      have HG1 := Lib.hid (grown_below hgn hbv)
      have HV1 := Lib.hid hv
      have HL := Lib.hid hl'
      have HS := Lib.hid hs'
      obtain ⟨hv0, hhv⟩ : ∃ hv0, hv0 = wr.heap.size := ⟨_, rfl⟩
      rw [← hhv] at HV1 ⊢
      have hl0 : Hid (∀ k, xa = some ⟨k, 0, none⟩ → k ≠ hv0) := Lib.hid (fun k hk2 e => by
        rw [E.out.1] at hk2
        obtain ⟨cur2, s, _⟩ := HK1.out.ok j hjH
        rcases s with ⟨s, _⟩ | ⟨g', s, hg', _⟩
        · rw [s] at hk2; cases hk2
        · rw [s] at hk2; cases hk2
          rw [e, HV1.out] at hg'
          have := (Obj.cells.inj (Option.some.inj hg')).2.1
          revert this; decide)
      clear hv hbv hBw HB HX hk hgn hs' f1 hhv hgr
      have hst : GrowSt w1 w1 B H'[j].l (mk H'[j].m) 0 H'[j].l.a H'[j].l.c := GrowSt.start (HK1.out.ok j hjH) (HG1.out.lists j hjH)
      have HST := Lib.hid hst
      clear hst
      obtain ⟨P, hP⟩ : ∃ P, P = 40 := ⟨_, rfl⟩
      have HP := Lib.hid hP
      clear hP
      go_wp2
      go_loopw [5, 4] (fun i2 s2 wk => ∃ t : Nat, ∃ a2 n2 c2, t ≤ 40 ∧ i2 = .int .i64 t ∧ s2 = .slice a2 n2 c2 ∧ Hid (n2 = xn + t) ∧ Hid (GrowSt w1 wk B H'[j].l (mk H'[j].m) t a2 c2)) (fun i2 _ _ => P - (intOf i2).toNat)
      case atStart => exact ⟨0, xa, xn, xc, by omega, rfl, rfl, Lib.hid rfl, Lib.hid (by rw [E.out.1, E.out.2.2.1]; exact HST.out)⟩
      case round =>
        obtain ⟨t, a2, n2, c2, ht, rfl, rfl, HN2, HS2⟩ := hrel
        have HV : Hid (wr.heap[hv0]? = some (.cells #[.slice xa xn xc, .slice ya yn yc, .int .i64 m] 90 (0, 0))) := Lib.hid (HS2.out.2.1.heap HV1.out (fun e => hl0.out hv0 (by rw [E.out.1]; exact e) rfl))
        have v2 : wr.cell? ⟨hv0, 2, none⟩ = some (.int .i64 m) := by rw [cell_of_block HV.out]; rfl
        by_cases htl : t < 40
        · have hn2 : n2 ≤ 100000100 := by have := HN2.out; omega
          have hs2 := HS2.out
          obtain ⟨_, _, _, _, cur2, s2, tk2, _⟩ := hs2
          have hnn : H'[j].l.n + t = n2 := by rw [HN2.out, E.out.2.1]
          rw [hnn] at s2 tk2
          have HC2 := Lib.hid s2
          have HTK := Lib.hid tk2
          have HNN := Lib.hid hnn
          have hba : Below wr.heap.size wr (wr.alloc (.cells #[.int .u8 ((mk m).toNat : Int)] 5)) := (Below.refl _ _).alloc (Nat.le_refl _) _
          have HA1 : Hid (S1 (wr.alloc (.cells #[.int .u8 ((mk m).toNat : Int)] 5)) a2 n2 c2 cur2) := Lib.hid (HC2.out.touch (Touch.of_below (S := fun _ => False) hba) (fun _ _ => id))
          have HA2 : Hid ((wr.alloc (.cells #[.int .u8 ((mk m).toNat : Int)] 5)).cell? ⟨wr.heap.size, 0, none⟩ = some (.int .u8 ((mk m).toNat : Int))) := Lib.hid (by rw [cell_of_block (heap_new _ _)]; rfl)
          have HA3 := Lib.hid (HS2.out.below hba)
          clear s2 tk2 hnn hba
          go_wp2_with fail
          refine (markByte_any m wr hm62).mono ?_
          rintro e w4 ⟨rfl, rfl⟩
          go_wp2_with (first
            | (at_builtin; refine wpList_append1 rfl (.tmp 28) (.tmp 32) rfl a2 n2 c2 cur2 rfl HA1.out ⟨wr.heap.size, 0, none⟩ (.int .u8 ((mk m).toNat : Int)) rfl HA2.out rfl (by omega) ?_; intro a3 c3 cur3 w3 hs3 ht3 hd3)
            | fail)
          have hst3 : GrowSt w1 w3 B H'[j].l (mk H'[j].m) (t + 1) a3 c3 := by
            have hs1 := HA1.out
            have hx := HA3.out
            rw [← HNN.out] at hs1 hs3 ht3 hd3
            rw [← E.out.2.2.2.2.2.2]
            rw [← E.out.2.2.2.2.2.2] at hx
            exact hx.step cur2 hs1 hs3 ht3 hd3
          have HST3 := Lib.hid hst3
          clear hst3 hs3 ht3 hd3 HA1 HA2 HA3 HC2 HTK HV v2 HS2
          go_wp2
          go_roundw
          case rel => exact ⟨t + 1, a3, n2 + 1, c3, by omega, by go_num, rfl, Lib.hid (by rw [HN2.out]; omega), HST3⟩
          case measure => have := HP.out; simp [intOf]; omega
        · have hte : t = 40 := by omega
          subst hte
          have hk4 : Bk wr B bk N (.slice (some ⟨gr, 0, none⟩) H'.length bc) H' := by
            have := HK1.out.grown j hjH HS2.out
            rw [HL.out]; exact this
          obtain ⟨N2, hN2⟩ : ∃ N2, N2 = n2 := ⟨_, rfl⟩
          have hn3 : N2 = H'[j].l.n + 40 := by rw [hN2, HN2.out, E.out.2.1]
          obtain ⟨hk5, hBgr, cur5, hgr5, hc5⟩ := hk4.setG j hjH ⟨a2, N2, c2⟩
          rw [hN2] at hk5 hn3
          have c1 : ∃ u, wr.cell? ⟨gr, j * 3 + 1, none⟩ = some u := by rw [cell_of_block hgr5]; exact ⟨_, Array.getElem?_eq_getElem hc5⟩
          obtain ⟨u, c1⟩ := c1
          have c2' : wr.frozen? ⟨gr, j * 3 + 1, none⟩ = false := book_frozen hgr5
          have f1 : wr.cell? ⟨bk, 1, none⟩ = some (.slice (some ⟨gr, 0, none⟩) M bc) := book_cell1 (by rw [← HL.out]; exact hk4.book)
          have HK5 := Lib.hid hk5
          have HB5 : Hid (Below B w (wr.setCell ⟨gr, j * 3 + 1, none⟩ (.slice a2 n2 c2))) := Lib.hid ((HB1.out.trans (HS2.out.2.1.below HBw1.out (fun k hk e => by
            obtain ⟨_, _, hB⟩ := HK1.out.ok j hjH
            have := hB k e
            omega))).setCell hBgr _)
          have HG5 : Hid (Grown w (wr.setCell ⟨gr, j * 3 + 1, none⟩ (.slice a2 n2 c2)) (H'.set j { H'[j] with g := ⟨a2, n2, c2⟩ }) (j + 1)) := Lib.hid (by
            have := grown_step HG1.out (by have := HK1.out; rw [← HL.out] at this; exact this) hgrW hjH HS2.out
            rw [hn3]; exact this)
          have HS5 : Hid (∀ (i : Nat) (hi : i < (H'.set j { H'[j] with g := ⟨a2, n2, c2⟩ }).length), (H'.set j { H'[j] with g := ⟨a2, n2, c2⟩ })[i].l.n ≤ 100000000) := Lib.hid (fun i hi => by
            have hi' : i < H'.length := by simpa using hi
            rw [(setL H' j hjH _ i hi hi').1]; exact HS.out i hi')
          have HL5 : Hid ((H'.set j { H'[j] with g := ⟨a2, n2, c2⟩ }).length = M) := Lib.hid (by rw [List.length_set]; exact HL.out)
          rw [← hN2] at hn3
          clear hk4 hk5 hgr5 hc5 hn3 hN2 v2 HV
          have esl : Value.slice (some ⟨gr, 0, none⟩) H'.length bc = .slice (some ⟨gr, 0, none⟩) M bc := by rw [HL.out]
          have hk6 := HK5.out
          rw [esl] at hk6
          have HK6 := Lib.hid hk6
          clear hk6 esl HK5
          go_wp2
          go_roundw
          case rel => exact ⟨j + 1, by omega, by go_num, HB5, Lib.hid ⟨_, HL5.out, HK6.out, HG5.out, HS5.out⟩⟩
          case measure => have := HM.out; simp [intOf]; omega
    · have hje : j = M := by omega
      subst hje
      go_wp2
      go_end0
      exact ⟨rfl, HB.out, H', by rw [hl', HM.out], by rw [← HM.out]; exact hk, by rw [← HM.out]; exact hgn, hs'⟩

end Go.Proofs.YthenakdfdpdknaaGreatDoor

/- A book looks at its lists of bytes; conditions: those typed. -/
namespace Go.Proofs.YthenakdfdpdknaaGreatDoor
open Go.RowKit
set_option linter.unusedVariables false
set_option linter.unusedSimpArgs false
set_option maxRecDepth 100000

theorem isByte_self (m : Nat) (w : World) (hm : m < 4611686018427387904) : Calls Tryz.prog 82 #[.int .u8 (mk m).toNat, .int .i64 m] w fun e w' => e = .returned (.bool true) ∧ w' = w :=
  (isByte_any (mk m) m w hm).mono fun e w' h => ⟨by rw [h.1]; simp, h.2.symm⟩

set_option maxHeartbeats 4000000 in
theorem lookByte_any (w : World) (B bk N : Nat) (bs : Value) (H : List Hl) (h : Bk w B bk N bs H) (hf : ∀ i (hi : i < H.length), HFill w H[i].l (mk H[i].m)) (hg : ∀ i (hi : i < H.length), HFill w H[i].g (mk H[i].m) ∧ H[i].g.n = H[i].l.n + 40) (hsm : ∀ i (hi : i < H.length), H[i].l.n ≤ 100000000) :
    Calls Tryz.prog 56 #[.pointer (some ⟨bk, 0, none⟩)] w fun e w' => e = .returned (.bool true) ∧ Below w.heap.size w w' := by
  have hfew := h.few
  obtain ⟨bo, bc, rfl⟩ := owns_shape h.row
  have HH := Lib.hid h
  have HF := Lib.hid hf
  have HG := Lib.hid hg
  have HSM := Lib.hid hsm
  clear h hf hg hsm
  go_enter Tryz.func56, Tryz.ntmps56
  go_wp2
  obtain ⟨M, hM⟩ : ∃ M, M = H.length := ⟨_, rfl⟩
  have HM := Lib.hid hM
  rw [← hM] at hfew
  clear hM
  go_loopw [3] (fun i wr => ∃ j : Nat, j ≤ M ∧ i = .int .i64 j ∧ Hid (Below w.heap.size w wr)) (fun i _ => M - (intOf i).toNat)
  case atStart => exact ⟨0, Nat.zero_le _, rfl, Lib.hid (Below.refl _ _)⟩
  case round =>
    obtain ⟨j, hj, rfl, HB⟩ := hrel
    have HKR : Hid (Bk wr B bk N (.slice bo H.length bc) H) := Lib.hid (HH.out.below HB.out)
    have f1 : wr.cell? ⟨bk, 1, none⟩ = some (.slice bo M bc) := book_cell1 (by rw [HM.out]; exact HKR.out.book)
    by_cases hlt : j < M
    · have hjH : j < H.length := by have := HM.out; omega
      obtain ⟨gr, c, cur, hbs, hnc, hcm, hgr, hra⟩ := HKR.out.row_at (by omega)
      rw [← HM.out] at hnc
      obtain ⟨rfl, rfl⟩ : bo = some ⟨gr, 0, none⟩ ∧ bc = c := by simpa using hbs
      obtain ⟨xa, xn, xc, ya, yn, yc, m, E⟩ : ∃ xa xn xc ya yn yc m, Hid (xa = H[j].l.a ∧ xn = H[j].l.n ∧ xc = H[j].l.c ∧ ya = H[j].g.a ∧ yn = H[j].g.n ∧ yc = H[j].g.c ∧ m = H[j].m) := ⟨_, _, _, _, _, _, _, Lib.hid ⟨rfl, rfl, rfl, rfl, rfl, rfl, rfl⟩⟩
      have RA : Hid (wr.rangeAt gr (j * 3) [.slice xa xn xc, .slice ya yn yc, .int .i64 m]) := Lib.hid (by obtain ⟨e1, e2, e3, e4, e5, e6, e7⟩ := E.out; rw [e1, e2, e3, e4, e5, e6, e7]; exact hra j hjH)
      have hm62 : m < 4611686018427387904 := by rw [E.out.2.2.2.2.2.2]; exact HKR.out.num j hjH
      have hxs : xn ≤ 100000000 := by rw [E.out.2.1]; exact HSM.out j hjH
      have hyx : yn = xn + 40 := by rw [E.out.2.1, E.out.2.2.2.2.1]; exact (HG.out j hjH).2
      have HL : Hid (∀ k, k < xn → ∃ g, xa = some ⟨g, 0, none⟩ ∧ w.cell? ⟨g, k, none⟩ = some (.int .u8 (mk m).toNat)) := Lib.hid (by
        obtain ⟨e1, e2, _, _, _, _, e7⟩ := E.out
        rw [e1, e2, e7]; exact HF.out j hjH)
      have HY : Hid (∀ k, k < yn → ∃ g, ya = some ⟨g, 0, none⟩ ∧ w.cell? ⟨g, k, none⟩ = some (.int .u8 (mk m).toNat)) := Lib.hid (by
        obtain ⟨_, _, _, e4, e5, _, e7⟩ := E.out
        rw [e4, e5, e7]; exact (HG.out j hjH).1)
      clear hbs hra hnc
      subst hyx
      go_wp2_with (first
        | (refine wpList_load_mid rfl 90 (.tmp 20) rfl gr (j * 3) rfl [.slice xa xn xc, .slice ya (xn + 40) yc, .int .i64 m] _ RA.out Tryz.underlying90 rfl infoHl3 ?_)
        | fail)
      have hv := heap_new wr (.cells #[.slice xa xn xc, .slice ya (xn + 40) yc, .int .i64 m] 90 (0, 0))
      have hbv : Below wr.heap.size wr (wr.alloc (.cells #[.slice xa xn xc, .slice ya (xn + 40) yc, .int .i64 m] 90)) := (Below.refl _ _).alloc (Nat.le_refl _) _
      have HB1 : Hid (Below w.heap.size w (wr.alloc (.cells #[.slice xa xn xc, .slice ya (xn + 40) yc, .int .i64 m] 90))) := Lib.hid (HB.out.trans (hbv.mono HB.out.size))
      have HV1 := Lib.hid hv
      obtain ⟨hv0, hhv⟩ : ∃ hv0, hv0 = wr.heap.size := ⟨_, rfl⟩
      rw [← hhv] at HV1 ⊢
      generalize wr.alloc (.cells #[.slice xa xn xc, .slice ya (xn + 40) yc, .int .i64 m] 90) = w1 at HB1 HV1 ⊢
      clear hv hbv HB HKR f1 hhv hgr RA
      obtain ⟨P, hP⟩ : ∃ P, P = xn + 40 := ⟨_, rfl⟩
      have HP := Lib.hid hP
      clear hP
      go_loopw [5] (fun i2 wk => ∃ k q : Nat, k ≤ xn + 40 ∧ i2 = .int .i64 k ∧ wk = w1.drewN q) (fun i2 _ => P - (intOf i2).toNat)
      case atStart => exact ⟨0, 0, Nat.zero_le _, rfl, rfl⟩
      case round =>
        obtain ⟨k, q, hk, rfl, hwr⟩ := hrel
        have HW := Lib.hid hwr
        have HBR : Hid (Below w.heap.size w wr) := Lib.hid (by rw [hwr]; exact below_drewN HB1.out _)
        have v0 : wr.cell? ⟨hv0, 0, none⟩ = some (.slice xa xn xc) := by rw [hwr, World.cell?_drewN, cell_of_block HV1.out]; rfl
        have v1 : wr.cell? ⟨hv0, 1, none⟩ = some (.slice ya ((xn + 40 : Nat)) yc) := by rw [hwr, World.cell?_drewN, cell_of_block HV1.out]; rfl
        have v2 : wr.cell? ⟨hv0, 2, none⟩ = some (.int .i64 m) := by rw [hwr, World.cell?_drewN, cell_of_block HV1.out]; rfl
        by_cases hkl : k < xn + 40
        · obtain ⟨gy, rfl, hcy⟩ := HY.out k hkl
          have c1 : wr.cell? ⟨gy, k, none⟩ = some (.int .u8 (mk m).toNat) := cell_later HBR.out hcy
          by_cases hkx : k < xn
          · obtain ⟨gx, rfl, hcx⟩ := HL.out k hkx
            have c0 : wr.cell? ⟨gx, k, none⟩ = some (.int .u8 (mk m).toNat) := cell_later HBR.out hcx
            clear hcx hcy hwr
            go_wp2_with fail
            go_quiet ((go_at_call 82; exact Calls.quiet_of_same (isByte_self m _ hm62)))
            go_wp2_with fail
            go_roundw
            case rel => exact ⟨k + 1, q + nq, by omega, by go_num, by rw [HW.out]; simp⟩
            case measure => have := HP.out; simp [intOf]; omega
          · clear hcy hwr
            go_wp2_with fail
            go_quiet ((go_at_call 82; exact Calls.quiet_of_same (isByte_self m _ hm62)))
            go_wp2_with fail
            go_roundw
            case rel => exact ⟨k + 1, q + nq, by omega, by go_num, by rw [HW.out]; simp⟩
            case measure => have := HP.out; simp [intOf]; omega
        · have hke : k = xn + 40 := by omega
          subst hke
          clear hwr
          go_wp2
          go_roundw
          case rel => exact ⟨j + 1, by omega, by go_num, HBR⟩
          case measure => have := HM.out; simp [intOf]; omega
    · have hje : j = M := by omega
      subst hje
      go_wp2
      go_ret
      exact ⟨rfl, HB.out⟩

end Go.Proofs.YthenakdfdpdknaaGreatDoor
