/- Zeros behind a slice of bytes that is full: a law of our own; conditions: those typed. -/
import Derived.Test.YthenakdfdpdknaaBB
import Derived.Deep.MidRow
import Derived.Lib.AppendZerosOnto
namespace Go.Proofs.Ythenakdfdpdknaa
open Go.RowKit
set_option linter.unusedVariables false

theorem wpList_append_zeros_full {w : World} {ops : Array Oper} {rest : List Oper} {o : Oper} {a : Act} {Q : Exit → Act → World → Prop} (hgd : o.guard = none) (s x : Operand) (tn : TypeId)
    (ho : o.op = .call { callee := .builtin .append, args := #[s, x], argTypes := #[23, tn] }) (kq kn : IntKind) (htn : Try.prog.underlying tn = some (.int kn))
    (b off n : Nat) (l : List UInt8) (hs : a.eval s = .slice (some ⟨b, off, none⟩) n n) (hl : IsB w (some ⟨b, off, none⟩) n n l) (k : Nat) (kI : Int) (hkI : kI = (k : Int)) (hx : a.eval x = .int kq kI) (hk : 0 < k) (hsm : n + k ≤ 100000)
    (h : ∀ c' w', IsB w' (some ⟨w.heap.size, 0, none⟩) (n + k) c' (l ++ List.replicate k 0) → Below w.heap.size w w' → wpList Try.prog ops Q rest (a.put o.dst (.slice (some ⟨w.heap.size, 0, none⟩) (n + k) c')) w') : wpList Try.prog ops Q (o :: rest) a w := by
  subst hkI
  obtain ⟨i, hi, hz, hsz, hbz⟩ := info_parts rowU8.info
  have hln := hl.1
  have hold : (Builtin.firstCells i.size n (.slice (some ⟨b, off, none⟩) n n)).run Try.prog w.drew = .ok (bcells l).toArray w.drew :=
    run_firstCells_some (P := Try.prog) w.drew i.size n ⟨b, off, none⟩ n n (bcells l) (by rw [hsz, bcells_length]; omega) (fun j v hv => by
      have hj := (List.getElem?_eq_some_iff.1 hv).1
      rw [bcells_length] at hj
      rcases hl.2.2.2 with ⟨h0, _⟩ | ⟨b', off', h0, _, hc⟩
      · rw [h0] at hj; simp at hj
      · cases h0
        rw [Addr.add_mid]
        have e1 : w.drew.cell? ⟨b, off + j, none⟩ = w.cell? ⟨b, off + j, none⟩ := rfl
        rw [e1, hc j hj]
        have : (bcells l)[j]? = some (.int .u8 l[j].toNat) := by simp [bcells, hj]
        rw [this] at hv
        exact hv)
  have hr := Lib.run_append_grow_zeros (P := Try.prog) w 23 tn o.type 5 i _ kq kn rowU8.ht htn hi hz (some ⟨b, off, none⟩) n n (bcells l) hold k hk (by omega) (by omega) (by omega) (by rw [hbz]; omega) (growslice_fits (by omega) (by rw [hbz]; omega))
  have hge := grownCap_ge w (n + k) n 5
  have hcm : grownCap w (n + k) n 5 ≤ maxLen := grownCap_le_maxLen w (n + k) n 5 (by unfold maxLen; omega)
  have hzl := zeroCells_list (.int .u8 0) k rfl
  have hown : (w.drew.alloc (.cells ((bcells l).toArray ++ Builtin.zeroCells (Value.int .u8 0).cells k ++ Builtin.zeroCells (Value.int .u8 0).cells (grownCap w (n + k) n 5 - (n + k))) 5)).ownsRow w.heap.size 5 1
      (.slice (some ⟨w.heap.size, 0, none⟩) (n + k) (grownCap w (n + k) n 5)) (n + k) (bcells (l ++ List.replicate k 0)) := by
    have hlen : (bcells (l ++ List.replicate k 0)).length = n + k := by rw [bcells_length]; simp; omega
    refine ⟨by rw [hlen]; omega, .inr ⟨w.heap.size, _, _, rfl, Nat.le_refl _, heap_new w.drew _, hge, hcm, ?_, ?_⟩⟩
    · simp only [Array.size_append, List.size_toArray, size_zeroCells, bcells_length]
      simp [Value.cells]
      omega
    · simp only [Array.toList_append, List.append_assoc, hzl]
      have e1 : bcells (l ++ List.replicate k 0) = bcells l ++ List.replicate k (.int .u8 0) := by rw [bcells_append, bcells_zeros]
      rw [← List.append_assoc, ← e1, Nat.mul_one, ← hlen]
      exact List.take_left
  have hi' := isB_of_owns hown (by simp; omega)
  refine wpList_plain hgd fun _ hK => ?_
  exact Lib.wp_append_run w s x 23 tn ho _ _ hs hx _ _ hr (hK _ _ (h _ _ hi' (((Below.refl _ _).drew).alloc (by simp) _)))

end Go.Proofs.Ythenakdfdpdknaa
