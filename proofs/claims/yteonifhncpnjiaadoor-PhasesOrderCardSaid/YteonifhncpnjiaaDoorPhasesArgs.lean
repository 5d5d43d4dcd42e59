/- Opening the arguments of the statements of layer 22; no condition. -/
import Derived.Test.YteonifhncpnjiaaDoorOpen
namespace Go.Proofs.YteonifhncpnjiaaDoor
open Go.ChangeShapes Go.WideShapes Go.ChangeAt Go.RowKit Go.Deep
set_option linter.unusedVariables false
section
variable {H : Type} {enc : TypeId × Value → H} {W : World} {base b0 : Nat} {held : Bool} {r : Reach}

theorem field_nat {k : IntKind} {t n m : Nat} {B : Nat} {u : Value} {y : DataW H × List MemPlace} (ht : Tryd.prog.underlying t = some (.int k))
    (hk : ∀ x : Int, (Lit.int k x).wf = true → ∃ n : Nat, x = n ∧ n < B) (h : DataW.trod enc Tryd.prog W base (fun _ => true) held n t [u] = some y) : ∃ x : Nat, u = .int k x ∧ x < B := by
  obtain ⟨z, hz, _, hw⟩ := DataW.trod_int ht h
  obtain ⟨x, rfl, hx⟩ := hk z hw
  exact ⟨x, by simpa using hz, hx⟩

theorem open_Times {v : Value} {d : DataW H} {p : List MemPlace} (hv : Value.okWide Tryd.prog W r b0 46 v) (h : DataW.Trod enc Tryd.prog W base (fun _ => true) held 46 v d p) :
    ∃ p a now til : Nat, v = .agg #[.int .u8 p, .int .u8 a, .int .u64 now, .int .u64 til] ∧ p < 256 ∧ a < 256 ∧ now < 18446744073709551616 ∧ til < 18446744073709551616 := by
  obtain ⟨cs, n, rfl, hsz, hf⟩ := open_aggN Tryd.underlying46 (by kernel_rfl) (by kernel_rfl) hv h
  obtain ⟨u0, y0, c0, h0⟩ := hf 0 _ rfl
  obtain ⟨u1, y1, c1, h1⟩ := hf 1 _ rfl
  obtain ⟨u2, y2, c2, h2⟩ := hf 2 _ rfl
  obtain ⟨u3, y3, c3, h3⟩ := hf 3 _ rfl
  obtain ⟨x0, rfl, b0⟩ := field_nat (n := n) (m := 0) Tryd.underlying24 (fun _ => u8_nat) h0
  obtain ⟨x1, rfl, b1⟩ := field_nat (n := n) (m := 0) Tryd.underlying27 (fun _ => u8_nat) h1
  obtain ⟨x2, rfl, b2⟩ := field_nat (n := n) (m := 0) Tryd.underlying30 (fun _ => u64_nat) h2
  obtain ⟨x3, rfl, b3⟩ := field_nat (n := n) (m := 0) Tryd.underlying30 (fun _ => u64_nat) h3
  refine ⟨x0, x1, x2, x3, ?_, b0, b1, b2, b3⟩
  congr 1
  obtain ⟨l⟩ := cs
  match l, hsz with
  | [e0, e1, e2, e3], _ => simp at c0 c1 c2 c3; rw [c0, c1, c2, c3]

theorem open_Frame {v : Value} {d : DataW H} {p : List MemPlace} (hv : Value.okWide Tryd.prog W r b0 42 v) (h : DataW.Trod enc Tryd.prog W base (fun _ => true) held 42 v d p) :
    ∃ (ask who seq tok : Nat) (vs vb : Value), v = .agg #[.int .u8 ask, .int .u8 who, .int .u32 seq, .int .u64 tok, vs, vb] ∧ ask < 256 ∧ who < 256 := by
  obtain ⟨cs, n, rfl, hsz, hf⟩ := open_aggN Tryd.underlying42 (by kernel_rfl) (by kernel_rfl) hv h
  obtain ⟨u0, y0, c0, h0⟩ := hf 0 _ rfl
  obtain ⟨u1, y1, c1, h1⟩ := hf 1 _ rfl
  obtain ⟨u2, y2, c2, h2⟩ := hf 2 _ rfl
  obtain ⟨u3, y3, c3, h3⟩ := hf 3 _ rfl
  obtain ⟨u4, y4, c4, h4⟩ := hf 4 _ rfl
  obtain ⟨u5, y5, c5, h5⟩ := hf 5 _ rfl
  obtain ⟨x0, rfl, b0⟩ := field_nat (n := n) (m := 0) Tryd.underlying27 (fun _ => u8_nat) h0
  obtain ⟨x1, rfl, b1⟩ := field_nat (n := n) (m := 0) Tryd.underlying5 (fun _ => u8_nat) h1
  obtain ⟨x2, rfl, b2⟩ := field_nat (n := n) (m := 0) Tryd.underlying39 (fun _ => u32_nat) h2
  obtain ⟨x3, rfl, b3⟩ := field_nat (n := n) (m := 0) Tryd.underlying30 (fun _ => u64_nat) h3
  refine ⟨x0, x1, x2, x3, u4, u5, ?_, b0, b1⟩
  congr 1
  obtain ⟨l⟩ := cs
  match l, hsz with
  | [e0, e1, e2, e3, e4, e5], _ => simp at c0 c1 c2 c3 c4 c5; rw [c0, c1, c2, c3, c4, c5]

theorem open_Draw {v : Value} {d : DataW H} {p : List MemPlace} (hv : Value.okWide Tryd.prog W r b0 33 v) (h : DataW.Trod enc Tryd.prog W base (fun _ => true) held 33 v d p) :
    ∃ l : List UInt8, v = .agg (l.map fun b => Value.int .u8 b.toNat).toArray ∧ l.length = 16 :=
  open_u8s Tryd.underlying33 Tryd.underlying5 (by kernel_rfl) (by kernel_rfl) hv h
end
end Go.Proofs.YteonifhncpnjiaaDoor
