/- Opening the arguments of layer 20's statements: lists of structs, Old, records, acts, Torn; no condition. -/
import Derived.Test.YtggjhbpggddjmaaGreatGOpened
import Derived.Test.YtggjhbpggddjmaaGreatGStC
namespace Go.Proofs.YtggjhbpggddjmaaGreat
open Go.ChangeShapes Go.WideShapes Go.ChangeAt Go.RowKit Go.Deep
set_option linter.unusedVariables false
set_option maxRecDepth 100000

section
variable {P : Program} {w : World} {t e : TypeId} {cs : List Value}
/-- A slice of structs of m cells each. -/
def IsRows {X : Type} (cx : X → List Value) (m : Nat) (w : World) (a : Option Addr) (n c : Nat) (L : List X) : Prop :=
  n = L.length ∧ n ≤ c ∧ c ≤ maxLen ∧ (L = [] ∨ ∃ b off, a = some ⟨b, off, none⟩ ∧ b < w.heap.size ∧ ∀ i (hi : i < L.length) j v, (cx L[i])[j]? = some v → w.cell? ⟨b, off + i * m + j, none⟩ = some v)
theorem IsRows.below {X : Type} {cx : X → List Value} {m : Nat} {w w' : World} {a : Option Addr} {n c : Nat} {L : List X} (h : IsRows cx m w a n c L) (hb : Below w.heap.size w w') : IsRows cx m w' a n c L := by
  obtain ⟨h1, h2, h3, h4 | ⟨b, off, rfl, hlt, hc⟩⟩ := h
  · exact ⟨h1, h2, h3, .inl h4⟩
  · exact ⟨h1, h2, h3, .inr ⟨b, off, rfl, Nat.lt_of_lt_of_le hlt hb.size, fun i hi j v hj => (hb.cell (p := ⟨b, off + i * m + j, none⟩) hlt).trans (hc i hi j v hj)⟩⟩
theorem Opened.rows {X : Type} [Inhabited X] (cx : X → List Value) (R : X → Prop) (m : Nat) (hm : P.cellsOf e = m) (hm0 : 0 < m) (h : Opened P w t cs) (ht : P.underlying t = some (.slice e)) (hx : ∀ cs', Opened P w e cs' → ∃ x, cs' = cx x ∧ R x) :
    ∃ a n c L, cs = [.slice a n c] ∧ IsRows cx m w a n c L ∧ (∀ x ∈ L, R x) ∧ L.length * P.bytesOf e ≤ reachBytes := by
  rcases h.slice ht with rfl | ⟨a, len, cap, rfl, hl, hmx, hr, hxx⟩
  · exact ⟨none, 0, 0, [], rfl, ⟨rfl, Nat.le_refl _, by decide, .inl rfl⟩, by simp, by simp⟩
  · by_cases h0 : len = 0
    · subst h0
      exact ⟨some a, 0, cap, [], rfl, ⟨rfl, Nat.zero_le _, hmx, .inl rfl⟩, by simp, by simp⟩
    obtain ⟨L, hll, hp⟩ := take_choose (α := X) len (fun i x => (∀ j v, (cx x)[j]? = some v → w.cell? ((a.add (i * m)).add j) = some v) ∧ (cx x).length = m ∧ R x) (fun i hi => by
      obtain ⟨cs', h1, h2⟩ := hxx i (by omega)
      rw [hm] at h1
      obtain ⟨x, rfl, hR⟩ := hx cs' h2
      obtain ⟨_, hlen, hcell⟩ := World.cells?_some h1
      exact ⟨x, fun j v hj => by
        have hjm : j < m := by rw [← hlen]; exact (List.getElem?_eq_some_iff.1 hj).1
        rw [hcell j hjm, hj], hlen, hR⟩)
    obtain ⟨q0, ql, _⟩ := hp 0 (by omega)
    have h00 := q0 0 _ (List.getElem?_eq_getElem (by rw [ql]; exact hm0))
    rw [Nat.zero_mul, show (a.add 0).add 0 = a by simp [Addr.add]] at h00
    obtain ⟨hsp, hlt⟩ := addr_of_cell h00
    obtain ⟨b, off, spot⟩ := a
    simp at hsp
    subst hsp
    refine ⟨_, _, _, L, rfl, ⟨hll.symm, by omega, hmx, .inr ⟨b, off, rfl, hlt, fun i hi j v hj => ?_⟩⟩, fun x hx => ?_, ?_⟩
    · have := (hp i hi).1 j v hj
      rwa [addr_add, addr_add] at this
    · obtain ⟨i, hi, rfl⟩ := List.getElem_of_mem hx
      exact (hp i hi).2.2
    · rw [hll]
      exact Nat.le_trans (Nat.mul_le_mul_right _ hl) hr
end

/-- The argument of StoresOld. -/
theorem old_arg {w : World} {r : Reach} {b0 : Nat} {v : Value} (hv : Value.okWide Tryz.prog w r b0 43 v) (o : Opened Tryz.prog w 43 v.cells.toList) :
    ∃ (x : StA) (c : StC) (sq : Nat) (st : Bool) (ba : Option Addr) (bn bc : Nat) (l : List Int) (less p : Nat), v = .agg (x.cells c.t ++ [Value.int .u32 sq, Value.bool st, Value.slice ba bn bc, Value.int .u32 less, Value.int .u8 p]).toArray ∧ IsCf w (fun k => k < w.heap.size) x c ∧ IsI w ba bn bc l ∧ sq < 4294967296 ∧ less < 4294967296 ∧ p < 256 := by
  obtain ⟨cs, rfl, o'⟩ := Opened.structV Tryz.underlying43 hv o
  obtain ⟨hl, hf⟩ := o'.struct Tryz.underlying43
  have hl' : cs.length = 10 := hl.trans (by kernel_rfl)
  have k : ∀ t n, Tryz.prog.cellsOf t = n → ∀ x, Opened Tryz.prog w t ((cs.drop x).take (Tryz.prog.cellsOf t)) → Opened Tryz.prog w t ((cs.drop x).take n) := fun t n ht x h => by rwa [ht] at h
  obtain ⟨x, c, e0, hc⟩ := cfg_openC (k _ 5 (by kernel_rfl) 0 (hf 0 _ rfl))
  obtain ⟨sq, st, ra, rn, rc, rl, e1, h1, h2, _⟩ := rec_openC (k _ 3 (by kernel_rfl) 5 (hf 1 _ rfl))
  obtain ⟨less, e2⟩ := (k _ 1 (by kernel_rfl) 8 (hf 2 _ rfl)).u32 Tryz.underlying39
  obtain ⟨p, e3⟩ := (k _ 1 (by kernel_rfl) 9 (hf 3 _ rfl)).u8 Tryz.underlying34
  refine ⟨x, c, sq, st, ra, rn, rc, rl, less.toNat, p.toNat, ?_, hc, h2, h1, less.toNat_lt, p.toNat_lt⟩
  have : cs = cs.drop 0 := rfl
  rw [this, drop_piece cs 0 5, e0, drop_piece cs (0 + 5) 3, e1, drop_piece cs (0 + 5 + 3) 1, e2, drop_piece cs (0 + 5 + 3 + 1) 1, e3, List.drop_eq_nil_of_le (by omega)]
  rfl

/-- A record, where it lies, and its bid. -/
structure RcV where
  sq : Nat
  st : Bool
  a : Option Addr
  n : Nat
  c : Nat
  l : List Int
instance : Inhabited RcV := ⟨⟨0, false, none, 0, 0, []⟩⟩
def RcV.cells (x : RcV) : List Value := [.int .u32 x.sq, .bool x.st, .slice x.a x.n x.c]
def RcV.r (x : RcV) : StR := ⟨x.sq, x.st, x.l⟩
structure RcOk (w : World) (x : RcV) : Prop where
  sq : x.sq < 4294967296
  i : IsI w x.a x.n x.c x.l
  len : x.l.length ≤ 140737488351232
theorem rcV_openC {w : World} {cs : List Value} (o : Opened Tryz.prog w 41 cs) : ∃ x : RcV, cs = x.cells ∧ RcOk w x := by
  obtain ⟨sq, st, a, n, c, l, e, h1, h2, h3⟩ := rec_openC o
  exact ⟨⟨sq, st, a, n, c, l⟩, e, h1, h2, h3⟩
theorem recs_arg {w : World} {r : Reach} {b0 : Nat} {v : Value} (hv : Value.okWide Tryz.prog w r b0 54 v) (o : Opened Tryz.prog w 54 v.cells.toList) :
    ∃ a n c L, v = .slice a n c ∧ IsRows RcV.cells 3 w a n c L ∧ (∀ x ∈ L, RcOk w x) := by
  obtain ⟨a, n, c, L, e, h1, h2, _⟩ := o.rows RcV.cells (RcOk w) 3 (by kernel_rfl) (by decide) Tryz.underlying54 (fun cs' h => rcV_openC h)
  exact ⟨a, n, c, L, list_one ((Opened.sliceV Tryz.underlying54 hv o).symm.trans e), h1, h2⟩

/-- What is done with a store. -/
structure AcV where
  k : Nat
  who : Int
  r : RcV
  p : Nat
  oa : Option Addr
  on : Nat
  oc : Nat
  o : List Int
  n : Int
  at_ : Int
  ba : Option Addr
  bn : Nat
  bc : Nat
  b : List UInt8
instance : Inhabited AcV := ⟨⟨0, 0, default, 0, none, 0, 0, [], 0, 0, none, 0, 0, []⟩⟩
def AcV.cells (x : AcV) : List Value := [.int .u8 x.k, .int .i64 x.who, .int .u32 x.r.sq, .bool x.r.st, .slice x.r.a x.r.n x.r.c, .int .u8 x.p, .slice x.oa x.on x.oc, .int .i64 x.n, .int .i64 x.at_, .slice x.ba x.bn x.bc]
structure AcOk (w : World) (x : AcV) : Prop where
  k : x.k < 256
  who : -9223372036854775808 ≤ x.who ∧ x.who ≤ 9223372036854775807
  r : RcOk w x.r
  p : x.p < 256
  o : IsI w x.oa x.on x.oc x.o ∧ x.o.length ≤ 17592186044416
  n : -9223372036854775808 ≤ x.n ∧ x.n ≤ 9223372036854775807
  at_ : -9223372036854775808 ≤ x.at_ ∧ x.at_ ≤ 9223372036854775807
  b : IsB w x.ba x.bn x.bc x.b ∧ x.b.length ≤ 140737488351232
theorem act_openC {w : World} {cs : List Value} (o : Opened Tryz.prog w 50 cs) : ∃ x : AcV, cs = x.cells ∧ AcOk w x := by
  obtain ⟨hl, hf⟩ := o.struct Tryz.underlying50
  have hl' : cs.length = 10 := hl.trans (by kernel_rfl)
  have k : ∀ t n, Tryz.prog.cellsOf t = n → ∀ x, Opened Tryz.prog w t ((cs.drop x).take (Tryz.prog.cellsOf t)) → Opened Tryz.prog w t ((cs.drop x).take n) := fun t n ht x h => by rwa [ht] at h
  obtain ⟨kd, e0⟩ := (k _ 1 (by kernel_rfl) 0 (hf 0 _ rfl)).u8 Tryz.underlying5
  obtain ⟨who, e1, h1, h1'⟩ := (k _ 1 (by kernel_rfl) 1 (hf 1 _ rfl)).i64 Tryz.underlying3
  obtain ⟨r, e2, h2⟩ := rcV_openC (k _ 3 (by kernel_rfl) 2 (hf 2 _ rfl))
  obtain ⟨p, e3⟩ := (k _ 1 (by kernel_rfl) 5 (hf 3 _ rfl)).u8 Tryz.underlying34
  obtain ⟨oa, on, oc, ol, e4, h4, m4, _⟩ := (k _ 1 (by kernel_rfl) 6 (hf 4 _ rfl)).ints Tryz.underlying22 Tryz.underlying3 (by kernel_rfl) (by kernel_rfl)
  obtain ⟨n, e5, h5, h5'⟩ := (k _ 1 (by kernel_rfl) 7 (hf 5 _ rfl)).i64 Tryz.underlying3
  obtain ⟨at_, e6, h6, h6'⟩ := (k _ 1 (by kernel_rfl) 8 (hf 6 _ rfl)).i64 Tryz.underlying3
  obtain ⟨ba, bn, bc, bl, e7, h7, m7⟩ := (k _ 1 (by kernel_rfl) 9 (hf 7 _ rfl)).bytes Tryz.underlying24 Tryz.underlying5 (by kernel_rfl) (by kernel_rfl)
  refine ⟨⟨kd.toNat, who, r, p.toNat, oa, on, oc, ol, n, at_, ba, bn, bc, bl⟩, ?_, kd.toNat_lt, ⟨h1, h1'⟩, h2, p.toNat_lt, ⟨h4, by dsimp only; omega⟩, ⟨h5, h5'⟩, ⟨h6, h6'⟩, ⟨h7, m7⟩⟩
  have : cs = cs.drop 0 := rfl
  rw [this, drop_piece cs 0 1, e0, drop_piece cs (0 + 1) 1, e1, drop_piece cs (0 + 1 + 1) 3, e2, drop_piece cs (0 + 1 + 1 + 3) 1, e3, drop_piece cs (0 + 1 + 1 + 3 + 1) 1, e4, drop_piece cs (0 + 1 + 1 + 3 + 1 + 1) 1, e5, drop_piece cs (0 + 1 + 1 + 3 + 1 + 1 + 1) 1, e6,
    drop_piece cs (0 + 1 + 1 + 3 + 1 + 1 + 1 + 1) 1, e7, List.drop_eq_nil_of_le (by omega)]
  rfl
theorem acts_openC {w : World} {cs : List Value} (o : Opened Tryz.prog w 48 cs) : ∃ a n c L, cs = [.slice a n c] ∧ IsRows AcV.cells 10 w a n c L ∧ (∀ x ∈ L, AcOk w x) ∧ L.length ≤ 2199023255552 := by
  obtain ⟨a, n, c, L, e, h1, h2, h3⟩ := o.rows AcV.cells (AcOk w) 10 (by kernel_rfl) (by decide) Tryz.underlying48 (fun cs' h => act_openC h)
  have hb : Tryz.prog.bytesOf 50 = 120 := by kernel_rfl
  rw [hb] at h3
  exact ⟨a, n, c, L, e, h1, h2, by unfold reachBytes at h3; omega⟩
theorem acts_arg {w : World} {r : Reach} {b0 : Nat} {v : Value} (hv : Value.okWide Tryz.prog w r b0 48 v) (o : Opened Tryz.prog w 48 v.cells.toList) :
    ∃ a n c L, v = .slice a n c ∧ IsRows AcV.cells 10 w a n c L ∧ (∀ x ∈ L, AcOk w x) ∧ L.length ≤ 2199023255552 := by
  obtain ⟨a, n, c, L, e, h⟩ := acts_openC o
  exact ⟨a, n, c, L, list_one ((Opened.sliceV Tryz.underlying48 hv o).symm.trans e), h⟩
/-- The argument of StoresTorn. -/
theorem torn_arg {w : World} {r : Reach} {b0 : Nat} {v : Value} (hv : Value.okWide Tryz.prog w r b0 52 v) (o : Opened Tryz.prog w 52 v.cells.toList) :
    ∃ (x : StA) (c : StC) (a : Option Addr) (n cap : Nat) (L : List AcV) (m : AcV) (q : Nat), v = .agg (x.cells c.t ++ ([Value.slice a n cap] ++ (m.cells ++ [Value.int .u8 q]))).toArray ∧ IsCf w (fun k => k < w.heap.size) x c ∧ IsRows AcV.cells 10 w a n cap L ∧ (∀ x ∈ L, AcOk w x) ∧ L.length ≤ 2199023255552 ∧ AcOk w m ∧ q < 256 := by
  obtain ⟨cs, rfl, o'⟩ := Opened.structV Tryz.underlying52 hv o
  obtain ⟨hl, hf⟩ := o'.struct Tryz.underlying52
  have hl' : cs.length = 17 := hl.trans (by kernel_rfl)
  have k : ∀ t n, Tryz.prog.cellsOf t = n → ∀ x, Opened Tryz.prog w t ((cs.drop x).take (Tryz.prog.cellsOf t)) → Opened Tryz.prog w t ((cs.drop x).take n) := fun t n ht x h => by rwa [ht] at h
  obtain ⟨x, c, e0, hc⟩ := cfg_openC (k _ 5 (by kernel_rfl) 0 (hf 0 _ rfl))
  obtain ⟨a, n, cap, L, e1, h1, h2, h3⟩ := acts_openC (k _ 1 (by kernel_rfl) 5 (hf 1 _ rfl))
  obtain ⟨m, e2, hm⟩ := act_openC (k _ 10 (by kernel_rfl) 6 (hf 2 _ rfl))
  obtain ⟨q, e3⟩ := (k _ 1 (by kernel_rfl) 16 (hf 3 _ rfl)).u8 Tryz.underlying5
  refine ⟨x, c, a, n, cap, L, m, q.toNat, ?_, hc, h1, h2, h3, hm, q.toNat_lt⟩
  have : cs = cs.drop 0 := rfl
  rw [this, drop_piece cs 0 5, e0, drop_piece cs (0 + 5) 1, e1, drop_piece cs (0 + 5 + 1) 10, e2, drop_piece cs (0 + 5 + 1 + 10) 1, e3, List.drop_eq_nil_of_le (by omega)]
  rfl

end Go.Proofs.YtggjhbpggddjmaaGreat
