/- Opening the arguments of a call: lemmas of our own; no condition. -/
import Derived.Test.YtggjhbpggddjmaaGreatGInts
import Derived.Deep.Fields
import Derived.Lib.SmallJoins
namespace Go.Proofs.YtggjhbpggddjmaaGreat
open Go.ChangeShapes Go.WideShapes Go.ChangeAt Go.RowKit Go.Deep
set_option linter.unusedVariables false
set_option maxRecDepth 100000

theorem own : ownKnob Tryz.prog.godebug = none := by kernel_rfl
theorem laidOut : laidOutB Tryz.prog = true := by kernel_rfl

theorem u8_nat {x : Int} (h : (Lit.int .u8 x).wf = true) : ∃ n : Nat, x = n ∧ n < 256 := by
  simp [Lit.wf, IntKind.min, IntKind.max, IntKind.signed, IntKind.bits] at h
  exact ⟨x.toNat, by omega, by omega⟩
theorem u16_nat {x : Int} (h : (Lit.int .u16 x).wf = true) : ∃ n : Nat, x = n ∧ n < 65536 := by
  simp [Lit.wf, IntKind.min, IntKind.max, IntKind.signed, IntKind.bits] at h
  exact ⟨x.toNat, by omega, by omega⟩
theorem u32_nat {x : Int} (h : (Lit.int .u32 x).wf = true) : ∃ n : Nat, x = n ∧ n < 4294967296 := by
  simp [Lit.wf, IntKind.min, IntKind.max, IntKind.signed, IntKind.bits] at h
  exact ⟨x.toNat, by omega, by omega⟩
theorem u64_nat {x : Int} (h : (Lit.int .u64 x).wf = true) : ∃ n : Nat, x = n ∧ n < 18446744073709551616 := by
  simp [Lit.wf, IntKind.min, IntKind.max, IntKind.signed, IntKind.bits] at h
  exact ⟨x.toNat, by omega, by omega⟩
theorem i64_bounds {x : Int} (h : (Lit.int .i64 x).wf = true) : -9223372036854775808 ≤ x ∧ x ≤ 9223372036854775807 := by
  simp [Lit.wf, IntKind.min, IntKind.max, IntKind.signed, IntKind.bits] at h
  omega

/-- What 'open_ints' hands over of a slice of ints, as a list. -/
theorem isI_of_ints {W : World} {a : Option Addr} {m c : Nat} (x : Addr) (zs : List Int) (ha : a = some x) (hl : m ≤ c) (hm : c ≤ maxLen) (hz : zs.length = c)
    (hcell : ∀ i, i < zs.length → W.cell? (x.add i) = some (.int .i64 (zs.getD i 0))) : IsI W a m c (zs.take m) := by
  subst ha
  by_cases h0 : m = 0
  · subst h0
    exact ⟨by simp, by simp, hm, .inl ⟨by simp, fun h => by cases h⟩⟩
  obtain ⟨b, off, spot⟩ := x
  have hc0 := hcell 0 (by omega)
  have hspot : spot = none := by simpa [Addr.add] using World.cell?_spot hc0
  subst hspot
  refine ⟨by simp; omega, by simp; omega, hm, .inr ⟨b, off, rfl, ?_, fun i hi => ?_⟩⟩
  · have hb := hc0
    simp only [Addr.add, World.cell?] at hb
    rcases Nat.lt_or_ge b W.heap.size with h | h
    · exact h
    · simp [Array.getElem?_eq_none h] at hb
  · have him : i < m := by simp at hi; omega
    have := hcell i (by omega)
    have hiz : i < zs.length := by omega
    simp [hiz] at this
    by_cases hi0 : i = 0
    · subst hi0; simpa [Addr.add] using this
    · simpa [Addr.add, hi0] using this

section
variable {H : Type} {enc : TypeId × Value → H} {W : World} {base : Nat} {held : Bool}
/-- A slice of a kind of bytes: the first limb: by its reading; 't' the slice's type. -/
theorem isB_openT {t e : TypeId} (ht : Tryz.prog.underlying t = some (.slice e)) (he : Tryz.prog.underlying e = some (.int .u8)) (hc : Tryz.prog.cellsOf e = 1) {a0 : Option Addr} {len0 cap0 fuel : Nat} {x : DataW H × List MemPlace}
    (hf : DataW.trod enc Tryz.prog W base (fun _ => true) held fuel t [Value.slice a0 len0 cap0] = some x) : ∃ l, IsB W a0 len0 cap0 l := by
  rcases open_ints ht he hc hf with ⟨hcs, _⟩ | ⟨x, l, c, zs, hcs, _, hl, hm, hz, _, hcell, hwz⟩
  · simp at hcs
    obtain ⟨rfl, rfl, rfl⟩ := hcs
    exact ⟨[], isB_nil W⟩
  · simp at hcs
    obtain ⟨rfl, rfl, rfl⟩ := hcs
    exact isB_of_ints x zs rfl hl hm (by simpa using hz) hcell hwz
theorem isI_openT {t e : TypeId} (ht : Tryz.prog.underlying t = some (.slice e)) (he : Tryz.prog.underlying e = some (.int .i64)) (hc : Tryz.prog.cellsOf e = 1) {a0 : Option Addr} {len0 cap0 fuel : Nat} {x : DataW H × List MemPlace}
    (hf : DataW.trod enc Tryz.prog W base (fun _ => true) held fuel t [Value.slice a0 len0 cap0] = some x) : ∃ l, IsI W a0 len0 cap0 l := by
  rcases open_ints ht he hc hf with ⟨hcs, _⟩ | ⟨x, l, c, zs, hcs, _, hl, hm, hz, _, hcell, hwz⟩
  · simp at hcs
    obtain ⟨rfl, rfl, rfl⟩ := hcs
    exact ⟨[], IsI.nil W⟩
  · simp at hcs
    obtain ⟨rfl, rfl, rfl⟩ := hcs
    exact ⟨_, isI_of_ints x zs rfl hl hm (by simpa using hz) hcell⟩

set_option maxRecDepth 100000 in
/-- A struct of one-cell fields, by value. -/
theorem open_aggN {r : Reach} {b0 : Nat} {sp : Nat → Bool} {t : TypeId} {fs : Array Field} {v : Value} {d : DataW H} {p : List MemPlace} (hs : Tryz.prog.underlying t = some (.struct fs)) (hone : oneCellFields Tryz.prog fs = true) (hC : Tryz.prog.cellsOf t = fs.size)
    (hv : Value.okWide Tryz.prog W r b0 t v) (h : DataW.Trod enc Tryz.prog W base sp held t v d p) :
    ∃ (cs : Array Value) (n : Nat), v = .agg cs ∧ cs.size = fs.size ∧ ∀ (j : Nat) (f : Field), fs[j]? = some f → ∃ (u : Value) (y : DataW H × List MemPlace), cs[j]? = some u ∧ DataW.trod enc Tryz.prog W base sp held n f.type [u] = some y := by
  obtain ⟨cs, rfl, hsz⟩ := okWide_struct hs hv
  obtain ⟨fuel, hf⟩ := h
  obtain ⟨xs, n, _, hx, _, hlen, hg⟩ := DataW.trod_struct hs hf
  refine ⟨cs, n, rfl, hsz.trans hC, fun j f hj => ?_⟩
  obtain ⟨o, k⟩ := hone_of hone j f hj
  have hjl : j < fs.size := (Array.getElem?_eq_some_iff.1 hj).1
  have hjc : j < cs.toList.length := by simpa [hsz, hC] using hjl
  have h1 := hg j f hj
  rw [o, k] at h1
  have hcl : (Value.agg cs).cells.toList = cs.toList := rfl
  have h2 : (cs.toList.drop j).take 1 = [cs.toList[j]] := by rw [List.drop_eq_getElem_cons hjc]; rfl
  rw [hcl, h2] at h1
  have hjx : j < xs.length := by omega
  rw [List.getElem?_eq_getElem hjx] at h1
  exact ⟨cs.toList[j], xs[j], by simp, h1⟩

/-- An array of bytes, by value. -/
theorem open_u8s {r : Reach} {b0 m : Nat} {sp : Nat → Bool} {t e : TypeId} {v : Value} {d : DataW H} {p : List MemPlace} (hs : Tryz.prog.underlying t = some (.array m e)) (he : Tryz.prog.underlying e = some (.int .u8)) (hCe : Tryz.prog.cellsOf e = 1) (hC : Tryz.prog.cellsOf t = m)
    (hv : Value.okWide Tryz.prog W r b0 t v) (h : DataW.Trod enc Tryz.prog W base sp held t v d p) :
    ∃ l : List UInt8, v = .agg (l.map fun b => Value.int .u8 b.toNat).toArray ∧ l.length = m := by
  have hv' := hv
  simp only [Value.okWide, hs] at hv'
  obtain ⟨cs, rfl, hsz, _⟩ := hv'
  obtain ⟨fuel, hf⟩ := h
  cases fuel with
  | zero => simp [DataW.trod] at hf
  | succ n =>
  obtain ⟨xs, q, hq, hx, _, hlen, hg⟩ := DataW.trod_array hs hf
  have hcl : (Value.agg cs).cells.toList = cs.toList := rfl
  rw [hCe, hcl] at hg
  have key : ∀ i (hi : i < cs.size), ∃ c : UInt8, cs[i] = Value.int .u8 c.toNat := fun i hi => by
    have h1 := hg i (by omega)
    have hic : i < cs.toList.length := by simpa using hi
    have h2 : (cs.toList.drop (i * 1)).take 1 = [cs.toList[i]] := by rw [Nat.mul_one, List.drop_eq_getElem_cons hic]; rfl
    have hix : i < xs.length := by omega
    rw [h2, List.getElem?_eq_getElem hix] at h1
    obtain ⟨z, hz, _, hw⟩ := DataW.trod_int he h1
    obtain ⟨c, rfl, hc⟩ := u8_nat hw
    refine ⟨UInt8.ofNat c, ?_⟩
    have h3 : cs.toList[i] = Value.int .u8 c := by simpa using hz
    rw [show (UInt8.ofNat c).toNat = c by simp; omega, ← h3]
    simp
  refine ⟨(List.range cs.size).map fun i => if h : i < cs.size then (key i h).choose else 0, ?_, by simp; omega⟩
  congr 1
  apply Array.ext
  · simp
  · intro i h1 h2
    have := (key i h1).choose_spec
    simp [h1]
    exact this
end

theorem isB_open {W : World} {H : Type} {enc : TypeId × Value → H} {a0 : Option Addr} {len0 cap0 : Nat} {d0 : DataW H} {p0 : List MemPlace}
    (h0 : DataW.Trod enc Tryz.prog W 0 (fun _ => true) true 24 (Value.slice a0 len0 cap0) d0 p0) : ∃ l, IsB W a0 len0 cap0 l := by
  obtain ⟨fuel, hf⟩ := h0
  exact isB_openT Tryz.underlying24 Tryz.underlying5 (by kernel_rfl) hf

end Go.Proofs.YtggjhbpggddjmaaGreat
