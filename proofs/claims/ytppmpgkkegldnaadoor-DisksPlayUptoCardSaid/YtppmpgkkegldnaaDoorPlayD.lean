/- Acts on a disk, in memory; what is great; conditions: those typed. -/
import Derived.Test.YtppmpgkkegldnaaDoorBookZ
import Derived.Test.YtppmpgkkegldnaaDoorRefC
import Derived.Test.YtppmpgkkegldnaaDoorDisksBl
import Derived.Test.YtppmpgkkegldnaaDoorSameB
import Derived.Test.YtppmpgkkegldnaaDoorLeft
namespace Go.Proofs.YtppmpgkkegldnaaDoor
open Go.RowKit
set_option linter.unusedVariables false
set_option linter.unusedSimpArgs false
set_option maxRecDepth 100000

/-- An act: its kind, its number, its bytes. -/
structure ActD where
  kind : UInt8
  n : Int
  b : List UInt8
instance : Inhabited ActD := ⟨⟨0, 0, []⟩⟩
/-- A slice of acts that reads as a list. -/
def IsActs (w : World) (a : Option Addr) (n c : Nat) (L : List ActD) : Prop :=
  n = L.length ∧ L.length ≤ c ∧ c ≤ maxLen ∧ (L = [] ∨ ∃ b off, a = some ⟨b, off, none⟩ ∧ b < w.heap.size ∧ ∀ i (h : i < L.length), w.cell? ⟨b, off + i * 3, none⟩ = some (.int .u8 L[i].kind.toNat) ∧ w.cell? ⟨b, off + i * 3 + 1, none⟩ = some (.int .i64 L[i].n) ∧
    (-9223372036854775808 ≤ L[i].n ∧ L[i].n ≤ 9223372036854775807) ∧ ∃ ai ni ci, w.cell? ⟨b, off + i * 3 + 2, none⟩ = some (.slice ai ni ci) ∧ IsB w ai ni ci L[i].b)
theorem IsActs.below {w w' : World} {a : Option Addr} {n c : Nat} {L : List ActD} (h : IsActs w a n c L) (hb : Below w.heap.size w w') : IsActs w' a n c L := by
  obtain ⟨h1, h2, h3, h4 | ⟨b, off, rfl, hlt, hc⟩⟩ := h
  · exact ⟨h1, h2, h3, .inl h4⟩
  · refine ⟨h1, h2, h3, .inr ⟨b, off, rfl, Nat.lt_of_lt_of_le hlt hb.size, fun i hi => ?_⟩⟩
    obtain ⟨c1, c2, c3, ai, ni, ci, c4, hB⟩ := hc i hi
    exact ⟨(hb.cell (p := ⟨b, _, none⟩) hlt).trans c1, (hb.cell (p := ⟨b, _, none⟩) hlt).trans c2, c3, ai, ni, ci, (hb.cell (p := ⟨b, _, none⟩) hlt).trans c4, hB.below hb⟩

def gsum : List ActD → Nat
  | [] => 0
  | x :: L => 2 + x.b.length / 30 + gsum L
theorem gsum_snoc (L : List ActD) (x : ActD) : gsum (L ++ [x]) = gsum L + (2 + x.b.length / 30) := by
  induction L with
  | nil => simp [gsum]
  | cons y L ih => simp only [List.cons_append, gsum, ih]; omega
theorem gsum_le (L : List ActD) (h : ∀ x ∈ L, x.b.length ≤ 1048576) : gsum L ≤ L.length * 40000 := by
  induction L with
  | nil => simp [gsum]
  | cons y L ih =>
    have h1 := h y List.mem_cons_self
    have h2 := ih fun x hx => h x (List.mem_cons_of_mem _ hx)
    simp only [gsum, List.length_cons]
    omega
theorem gsum_len (L : List ActD) : 2 * L.length ≤ gsum L := by
  induction L with
  | nil => simp [gsum]
  | cons y L ih => simp only [gsum, List.length_cons]; omega
theorem gsum_mem (L : List ActD) (x : ActD) (hx : x ∈ L) : x.b.length / 30 ≤ gsum L := by
  induction L with
  | nil => cases hx
  | cons y L ih =>
    simp only [gsum]
    rcases List.mem_cons.1 hx with rfl | hx
    · omega
    · have := ih hx; omega

theorem great_any (a : Option Addr) (m c : Nat) (L : List ActD) (w : World) (h : IsActs w a m c L) (h1 : L.length ≤ 1048576) (h2 : ∀ x ∈ L, x.b.length ≤ 1048576) :
    Calls Tryd.prog 4 #[.slice a m c] w fun e w' => e = .returned (.bool (decide (600 < gsum L))) ∧ w = w' := by
  have H := Lib.hid h
  have H2 := Lib.hid h2
  obtain rfl := h.1
  clear h h2
  go_enter Tryd.func4, Tryd.ntmps4
  go_wp2
  go_loopw [3, 4] (fun n i wr => ∃ k g : Nat, k ≤ L.length ∧ i = .int .i64 k ∧ n = .int .i64 g ∧ Hid (g = gsum (L.take k)) ∧ wr = w) (fun n i _ => L.length - (intOf i).toNat)
  case atStart => exact ⟨0, 0, Nat.zero_le _, rfl, rfl, Lib.hid rfl, rfl⟩
  case round =>
    obtain ⟨k, g, hk, rfl, rfl, HG, rfl⟩ := hrel
    have hg : g ≤ 50000000000 := by
      have := gsum_le (L.take k) (fun x hx => H2.out x (List.mem_of_mem_take hx))
      rw [← HG.out] at this
      simp at this
      omega
    by_cases hlt : k < L.length
    · obtain ⟨_, _, _, h3 | ⟨b, off, rfl, hblt, hc⟩⟩ := H.out
      · rw [h3] at hlt; simp at hlt
      obtain ⟨_, _, _, ai, ni, ci, c4, hB⟩ := hc k hlt
      have hq : ((ni : Int)).tdiv 30 = ((ni / 30 : Nat) : Int) := by rw [Int.tdiv_eq_ediv_of_nonneg (by omega)]; omega
      have hni : ni ≤ 1048576 := by rw [hB.1]; exact H2.out _ (List.getElem_mem hlt)
      have HB := Lib.hid hB.1
      clear hc hB
      go_wp2
      go_roundw
      case rel => exact ⟨k + 1, g + 2 + ni / 30, by omega, by go_num, congrArg (Value.int .i64) (by omega), Lib.hid (by rw [List.take_succ_eq_append_getElem hlt, gsum_snoc, ← HG.out, ← HB.out]; omega), trivial⟩
      case measure => simp [intOf]; omega
    · have hke : k = L.length := by omega
      subst hke
      go_wp2
      go_ret
      refine ⟨?_, rfl⟩
      have := HG.out
      rw [List.take_length] at this
      rw [this]
      simp
      omega

end Go.Proofs.YtppmpgkkegldnaaDoor
