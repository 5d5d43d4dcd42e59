/- One byte behind a slice of bytes: just what is written, and where; conditions: those typed. -/
import Derived.Test.YtppmpgkkegldnaaDoorBB
import Derived.Deep.MidRow
namespace Go.Proofs.YtppmpgkkegldnaaDoor
open Go.RowKit
set_option linter.unusedVariables false

/-- A slice that begins its block, and what the block holds. -/
def S1 (w : World) (a : Option Addr) (n c : Nat) (cur : List Value) : Prop :=
  (a = none ∧ n = 0 ∧ c = 0 ∧ cur = []) ∨ ∃ g, a = some ⟨g, 0, none⟩ ∧ w.heap[g]? = some (.cells cur.toArray 5 (0, 0)) ∧ n ≤ c ∧ c ≤ cur.length ∧ c ≤ maxLen

theorem run_append1 (w : World) (ty : TypeId) (a : Option Addr) (n c : Nat) (cur : List Value) (h : S1 w a n c cur) (bo : Addr) (v : Value) (hv : w.cell? bo = some v) (h1 : v.oneCell' = true) (hn : n ≤ 140737488351232) :
    ∃ a' c' cur' w', (Builtin.append_ #[42, 42] ty #[.slice a n c, .slice (some bo) 1 1]).run Tryd.prog w = .ok (.slice a' (n + 1) c') w' ∧ S1 w' a' (n + 1) c' cur' ∧ cur'.take (n + 1) = cur.take n ++ [v] ∧
      ((a' = a ∧ c' = c ∧ n < c ∧ ∀ g, a = some ⟨g, 0, none⟩ → Touch (fun k => k = g) w w') ∨ (a' = some ⟨w.heap.size, 0, none⟩ ∧ Below w.heap.size w w')) := by
  obtain ⟨i, hi, hz, hs, hb⟩ := info_parts rowU8.info
  have ht := rowU8.ht
  have hnews : ∀ j u, [v][j]? = some u → w.cell? (bo.add j) = some u := by
    intro j u hu
    match j, hu with
    | 0, hu => simp at hu; subst hu; simpa [Addr.add] using hv
  have h1' : ∀ u ∈ [v], u.oneCell' = true := fun u hu => by simp at hu; subst hu; exact h1
  rcases h with ⟨rfl, rfl, rfl, rfl⟩ | ⟨g, rfl, hg, hnc, hcl, hcm⟩
  · have hr := run_append_nil (P := Tryd.prog) w 42 ty 5 i _ ht hi hz bo 1 1 [v] (by rw [hs]; rfl) hnews (by decide) (by decide) (by rw [hb]; decide)
    have hge := grownCap_ge w 1 0 5
    have hcm : grownCap w 1 0 5 ≤ maxLen := grownCap_le_maxLen w 1 0 5 (by decide)
    refine ⟨_, _, ([v] ++ (Builtin.zeroCells (Value.int .u8 0).cells (grownCap w 1 0 5 - 1)).toList), _, hr, .inr ⟨w.heap.size, rfl, ?_, by omega, ?_, hcm⟩, ?_, .inr ⟨rfl, ((Below.refl _ w).drew).alloc (by simp) _⟩⟩
    · exact (heap_new w.drew _).trans (by simp)
    · simp only [List.length_append, List.length_singleton, Array.length_toList, size_zeroCells]
      simp [Value.cells]; omega
    · simp
  · by_cases hroom : n + 1 ≤ c
    · have hr := run_append_room (P := Tryd.prog) w 42 ty 5 i ht hi g n c cur.toArray hg bo 1 1 [v] (by rw [hs]; rfl) hnews h1' hroom (by rw [hs]; simp; omega)
      refine ⟨_, _, _, _, hr, .inr ⟨g, rfl, setRow_heap w g _ _ _ _ hg, hroom, ?_, hcm⟩, ?_, .inl ⟨rfl, rfl, by omega, fun g' e => by cases e; exact (Touch.refl _ w).setRow g _ (.inl rfl)⟩⟩
      · rw [hs]; simp; omega
      · rw [hs]
        simp only [Nat.mul_one]
        rw [List.take_append_of_le_length (by simp; omega)]
        exact List.take_of_length_le (by simp; omega)
    · have hold : ∀ j u, (cur.take n)[j]? = some u → w.cell? ((⟨g, 0, none⟩ : Addr).add j) = some u := fun j u hu => by
        rw [Addr.add_mid, cell_of_block hg]
        have hj := (List.getElem?_eq_some_iff.1 hu).1
        rw [List.getElem?_take] at hu
        split at hu
        · simpa using hu
        · cases hu
      have hr := run_append_grow (P := Tryd.prog) w 42 ty 5 i _ ht hi hz ⟨g, 0, none⟩ n c (cur.take n) (by rw [hs]; simp; omega) hold bo 1 1 [v] (by rw [hs]; rfl) hnews (by omega) (by omega) (growslice_fits (by omega) (by rw [hb]; omega))
      have hge := grownCap_ge w (n + 1) c 5
      have hcm2 : grownCap w (n + 1) c 5 ≤ maxLen := grownCap_le_maxLen w (n + 1) c 5 (by unfold maxLen; omega)
      refine ⟨_, _, (cur.take n ++ [v] ++ (Builtin.zeroCells (Value.int .u8 0).cells (grownCap w (n + 1) c 5 - (n + 1))).toList), _, hr, .inr ⟨w.heap.size, rfl, ?_, by omega, ?_, hcm2⟩, ?_, .inr ⟨rfl, ((Below.refl _ w).drew).alloc (by simp) _⟩⟩
      · exact (heap_new w.drew _).trans (by simp)
      · simp only [List.length_append, List.length_singleton, Array.length_toList, size_zeroCells, List.length_take]
        simp [Value.cells]; omega
      · rw [List.take_append_of_le_length (by simp; omega)]
        exact List.take_of_length_le (by simp; omega)

theorem wpList_append1 {w : World} {ops : Array Oper} {rest : List Oper} {o : Oper} {a : Act} {Q : Exit → Act → World → Prop} (hgd : o.guard = none) (s x : Operand)
    (ho : o.op = .call { callee := .builtin .append, args := #[s, x], argTypes := #[42, 42] }) (p : Option Addr) (n c : Nat) (cur : List Value) (hs : a.eval s = .slice p n c) (h : S1 w p n c cur)
    (bo : Addr) (v : Value) (hx : a.eval x = .slice (some bo) 1 1) (hv : w.cell? bo = some v) (h1 : v.oneCell' = true) (hn : n ≤ 140737488351232)
    (hK : ∀ a' c' cur' w', S1 w' a' (n + 1) c' cur' → cur'.take (n + 1) = cur.take n ++ [v] → ((a' = p ∧ c' = c ∧ n < c ∧ ∀ g, p = some ⟨g, 0, none⟩ → Touch (fun k => k = g) w w') ∨ (a' = some ⟨w.heap.size, 0, none⟩ ∧ Below w.heap.size w w')) → wpList Tryd.prog ops Q rest (a.put o.dst (.slice a' (n + 1) c')) w') : wpList Tryd.prog ops Q (o :: rest) a w := by
  refine wpList_plain hgd fun _ hKK => ?_
  obtain ⟨a', c', cur', w', hr, h2, h3, h4⟩ := run_append1 w o.type p n c cur h bo v hv h1 hn
  exact Lib.wp_append_run w s x 42 42 ho _ _ hs hx _ w' hr (hKK _ _ (hK a' c' cur' w' h2 h3 h4))

end Go.Proofs.YtppmpgkkegldnaaDoor
