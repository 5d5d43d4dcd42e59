/- Opening the arguments of layer 19's statements; no condition. -/
import Derived.Test.YthenakdfdpdknaaLift
namespace Go.Proofs.Ythenakdfdpdknaa
open Go.ChangeShapes Go.WideShapes Go.ChangeAt Go.RowKit Go.Deep
set_option linter.unusedVariables false

theorem old_open {w : World} {r : Reach} {b0 : Nat} {v : Value} (hv : Value.okWide Try.prog w r b0 36 v) (o : Opened Try.prog w 36 v.cells.toList) :
    ∃ ba bn bc b ca cn cc c num less, v = .agg #[.slice ba bn bc, .slice ca cn cc, .int .u32 (UInt32.toNat num), .int .u32 (UInt32.toNat less)] ∧ IsB w ba bn bc b ∧ IsB w ca cn cc c := by
  obtain ⟨cs, rfl, o'⟩ := Opened.structV Try.underlying36 hv o
  obtain ⟨hl, hf⟩ := o'.struct Try.underlying36
  have hl' : cs.length = 4 := hl.trans (by kernel_rfl)
  have k : ∀ t, Try.prog.cellsOf t = 1 → ∀ x, Opened Try.prog w t ((cs.drop x).take (Try.prog.cellsOf t)) → Opened Try.prog w t ((cs.drop x).take 1) := fun t ht x h => by rwa [ht] at h
  obtain ⟨ba, bn, bc, b, e0, h0, _⟩ := (k _ (by kernel_rfl) 0 (hf 0 _ rfl)).bytes Try.underlying23 Try.underlying5 (by kernel_rfl) (by kernel_rfl)
  obtain ⟨ca, cn, cc, c, e1, h1, _⟩ := (k _ (by kernel_rfl) 1 (hf 1 _ rfl)).bytes Try.underlying23 Try.underlying5 (by kernel_rfl) (by kernel_rfl)
  obtain ⟨num, e2⟩ := (k _ (by kernel_rfl) 2 (hf 2 _ rfl)).u32 Try.underlying30
  obtain ⟨less, e3⟩ := (k _ (by kernel_rfl) 3 (hf 3 _ rfl)).u32 Try.underlying30
  refine ⟨ba, bn, bc, b, ca, cn, cc, c, num, less, ?_, h0, h1⟩
  have : cs = cs.drop 0 := rfl
  rw [this, drop_piece cs 0 1, e0, drop_piece cs (0 + 1) 1, e1, drop_piece cs (0 + 1 + 1) 1, e2, drop_piece cs (0 + 1 + 1 + 1) 1, e3, List.drop_eq_nil_of_le (by omega)]
  rfl

theorem torn_open {w : World} {r : Reach} {b0 : Nat} {v : Value} (hv : Value.okWide Try.prog w r b0 40 v) (o : Opened Try.prog w 40 v.cells.toList) :
    ∃ la ln lc L ma mn mc m wr, v = .agg #[.slice la ln lc, .slice ma mn mc, .int .u8 (UInt8.toNat wr)] ∧ IsBB w 0 la ln lc L ∧ IsB w ma mn mc m := by
  obtain ⟨cs, rfl, o'⟩ := Opened.structV Try.underlying40 hv o
  obtain ⟨hl, hf⟩ := o'.struct Try.underlying40
  have hl' : cs.length = 3 := hl.trans (by kernel_rfl)
  have k : ∀ t, Try.prog.cellsOf t = 1 → ∀ x, Opened Try.prog w t ((cs.drop x).take (Try.prog.cellsOf t)) → Opened Try.prog w t ((cs.drop x).take 1) := fun t ht x h => by rwa [ht] at h
  obtain ⟨la, ln, lc, L, e0, h0, _⟩ := (k _ (by kernel_rfl) 0 (hf 0 _ rfl)).bytess Try.underlying22 Try.underlying23 Try.underlying5 (by kernel_rfl) (by kernel_rfl) (by kernel_rfl)
  obtain ⟨ma, mn, mc, m, e1, h1, _⟩ := (k _ (by kernel_rfl) 1 (hf 1 _ rfl)).bytes Try.underlying23 Try.underlying5 (by kernel_rfl) (by kernel_rfl)
  obtain ⟨wr, e2⟩ := (k _ (by kernel_rfl) 2 (hf 2 _ rfl)).u8 Try.underlying5
  refine ⟨la, ln, lc, L, ma, mn, mc, m, wr, ?_, h0, h1⟩
  have : cs = cs.drop 0 := rfl
  rw [this, drop_piece cs 0 1, e0, drop_piece cs (0 + 1) 1, e1, drop_piece cs (0 + 1 + 1) 1, e2, List.drop_eq_nil_of_le (by omega)]
  rfl

theorem bs3_open {w : World} {r : Reach} {b0 : Nat} {v : Value} (hv : Value.okWide Try.prog w r b0 44 v) (o : Opened Try.prog w 44 v.cells.toList) :
    ∃ a0 n0 c0 l0 a1 n1 c1 l1 a2 n2 c2 l2, v = .agg #[.slice a0 n0 c0, .slice a1 n1 c1, .slice a2 n2 c2] ∧ IsB w a0 n0 c0 l0 ∧ IsB w a1 n1 c1 l1 ∧ IsB w a2 n2 c2 l2 := by
  obtain ⟨cs, rfl, o'⟩ := Opened.arrayV Try.underlying44 hv o
  obtain ⟨hl, hx⟩ := o'.array Try.underlying44
  have hl' : cs.length = 3 := hl.trans (by kernel_rfl)
  have k : ∀ x, Opened Try.prog w 23 ((cs.drop (x * Try.prog.cellsOf 23)).take (Try.prog.cellsOf 23)) → Opened Try.prog w 23 ((cs.drop x).take 1) := fun x h => by rwa [show Try.prog.cellsOf 23 = 1 by kernel_rfl, Nat.mul_one] at h
  obtain ⟨a0, n0, c0, l0, e0, h0, _⟩ := (k 0 (hx 0 (by omega))).bytes Try.underlying23 Try.underlying5 (by kernel_rfl) (by kernel_rfl)
  obtain ⟨a1, n1, c1, l1, e1, h1, _⟩ := (k 1 (hx 1 (by omega))).bytes Try.underlying23 Try.underlying5 (by kernel_rfl) (by kernel_rfl)
  obtain ⟨a2, n2, c2, l2, e2, h2, _⟩ := (k 2 (hx 2 (by omega))).bytes Try.underlying23 Try.underlying5 (by kernel_rfl) (by kernel_rfl)
  refine ⟨a0, n0, c0, l0, a1, n1, c1, l1, a2, n2, c2, l2, ?_, h0, h1, h2⟩
  have : cs = cs.drop 0 := rfl
  rw [this, drop_piece cs 0 1, e0, drop_piece cs (0 + 1) 1, e1, drop_piece cs (0 + 1 + 1) 1, e2, List.drop_eq_nil_of_le (by omega)]
  rfl

end Go.Proofs.Ythenakdfdpdknaa
