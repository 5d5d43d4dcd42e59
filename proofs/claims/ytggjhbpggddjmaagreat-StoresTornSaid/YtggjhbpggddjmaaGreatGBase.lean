/- Lemmas of our own on memory and bytes; no condition. -/
import Derived.Test.YtggjhbpggddjmaaGreatRows
import Derived.WalkKit
import Derived.WalkSpells
import Derived.WalkLawsBesides
import Derived.Lib.Hide
import Derived.Lib.SlBytesConst
import Derived.Deep.QuietTactic
import Derived.BigQuiet
import Derived.ProofKit
import Derived.OpenShut
import Derived.ChangeOld
import Derived.Below
namespace Go.Proofs.YtggjhbpggddjmaaGreat
open Go.RowKit Go.ChangeShapes Go.WideShapes Go.ChangeAt
set_option linter.unusedVariables false

theorem u8_lt (c : UInt8) : (c.toNat : Int) < 256 := by have := c.toNat_lt; omega

/-- A slice of bytes that reads as a list. -/
def IsB (w : World) (a : Option Addr) (n c : Nat) (l : List UInt8) : Prop :=
  n = l.length ∧ l.length ≤ c ∧ c ≤ maxLen ∧ ((l = [] ∧ (a = none → c = 0)) ∨ ∃ b off, a = some ⟨b, off, none⟩ ∧ b < w.heap.size ∧ ∀ i (h : i < l.length), w.cell? ⟨b, off + i, none⟩ = some (.int .u8 l[i].toNat))

theorem cell_of_block {w : World} {b : Nat} {C : Array Value} {e : TypeId} {fz : Nat × Nat} (h : w.heap[b]? = some (.cells C e fz)) (i : Nat) : w.cell? ⟨b, i, none⟩ = C[i]? := by
  simp [World.cell?, h]

theorem heap_new (w : World) (o : Obj) : (w.alloc o).heap[w.heap.size]? = some o := by
  show (w.heap.push o)[w.heap.size]? = _
  simp

theorem IsB.nil (w : World) : IsB w none 0 0 [] := ⟨rfl, Nat.le_refl _, by decide, .inl ⟨rfl, fun _ => rfl⟩⟩

/-- A fresh row of bytes reads as its list. -/
theorem IsB.fresh (w : World) (l : List UInt8) (C : Array Value) (e : TypeId) (fz : Nat × Nat) (hC : C = (l.map fun b => Value.int .u8 b.toNat).toArray) (n c : Nat) (hn : n = l.length) (hc : c = l.length) (hm : l.length ≤ maxLen) :
    IsB (w.alloc (.cells C e fz)) (some ⟨w.heap.size, 0, none⟩) n c l := by
  subst hC
  refine ⟨hn, by omega, by omega, .inr ⟨_, _, rfl, by simp, fun i h => ?_⟩⟩
  rw [cell_of_block (heap_new w _)]
  simp [h]

theorem IsB.below {w w' : World} {a : Option Addr} {n c : Nat} {l : List UInt8} (h : IsB w a n c l) (hb : Below w.heap.size w w') : IsB w' a n c l := by
  obtain ⟨h1, h2, h3, h4 | ⟨b, off, rfl, hlt, hc⟩⟩ := h
  · exact ⟨h1, h2, h3, .inl h4⟩
  · exact ⟨h1, h2, h3, .inr ⟨b, off, rfl, Nat.lt_of_lt_of_le hlt hb.size, fun i hi => (hb.cell (p := ⟨b, off + i, none⟩) hlt).trans (hc i hi)⟩⟩

/-- bytes as cells -/
def bcells (l : List UInt8) : List Value := l.map fun b => Value.int .u8 b.toNat

theorem bcells_length (l : List UInt8) : (bcells l).length = l.length := by simp [bcells]

theorem bcells_snoc (l : List UInt8) (k : Nat) (h : k < l.length) : bcells (l.take (k + 1)) = bcells (l.take k) ++ [.int .u8 l[k].toNat] := by
  unfold bcells
  rw [List.take_succ_eq_append_getElem h, List.map_append]; rfl

theorem one_at (w : World) (v : Value) (e : TypeId) : ∀ j u, [v][j]? = some u → (w.alloc (.cells #[v] e)).cell? ((⟨w.heap.size, 0, none⟩ : Addr).add j) = some u := by
  intro j u h
  match j, h with
  | 0, h => simp at h; subst h; simp [Addr.add]

theorem one_cell (v : Value) (h : v.oneCell' = true) : ∀ u ∈ [v], u.oneCell' = true := by
  intro u hu; simp at hu; subst hu; exact h

theorem cells_of_owns {w : World} {B e g n c : Nat} {xs : List Value} (h : w.ownsRow B e 1 (.slice (some ⟨g, 0, none⟩) n c) n xs) (i : Nat) (v : Value) (hv : xs[i]? = some v) : w.cell? ⟨g, i, none⟩ = some v := by
  have := h.cells (g := g) rfl i v hv
  by_cases hi : i = 0
  · subst hi; simpa [Addr.add] using this
  · simpa [Addr.add, hi] using this

theorem u8_of_int (zs : List Int) (h : ∀ n ∈ zs, (Lit.int .u8 n).wf = true) : ∃ l : List UInt8, l.length = zs.length ∧ ∀ i (hi : i < l.length), (l[i].toNat : Int) = zs.getD i 0 := by
  refine ⟨zs.map fun n => UInt8.ofNat n.toNat, by simp, fun i hi => ?_⟩
  have hi' : i < zs.length := by simpa using hi
  have hw := h zs[i] (List.getElem_mem hi')
  simp [Lit.wf, IntKind.min, IntKind.max, IntKind.signed, IntKind.bits] at hw
  simp [hi']
  omega

/-- What 'open_ints' hands over of a slice of bytes, as a list. -/
theorem isB_of_ints {W : World} {a : Option Addr} {m c : Nat} (x : Addr) (zs : List Int) (ha : a = some x) (hl : m ≤ c) (hm : c ≤ maxLen) (hz : zs.length = c)
    (hcell : ∀ i, i < zs.length → W.cell? (x.add i) = some (.int .u8 (zs.getD i 0))) (hwz : ∀ n ∈ zs, (Lit.int .u8 n).wf = true) : ∃ l, IsB W a m c l := by
  subst ha
  by_cases h0 : m = 0
  · subst h0
    exact ⟨[], rfl, Nat.zero_le _, hm, .inl ⟨rfl, fun h => by cases h⟩⟩
  obtain ⟨l, hll, hlv⟩ := u8_of_int zs hwz
  obtain ⟨b, off, spot⟩ := x
  have hc0 := hcell 0 (by omega)
  have hspot : spot = none := by simpa [Addr.add] using World.cell?_spot hc0
  subst hspot
  refine ⟨l.take m, by simp; omega, by simp; omega, hm, .inr ⟨b, off, rfl, ?_, fun i hi => ?_⟩⟩
  · have hb := hc0
    simp only [Addr.add, World.cell?] at hb
    rcases Nat.lt_or_ge b W.heap.size with h | h
    · exact h
    · simp [Array.getElem?_eq_none h] at hb
  · have him : i < m := by simp at hi; omega
    have := hcell i (by omega)
    rw [← hlv i (by omega)] at this
    by_cases hi0 : i = 0
    · subst hi0; simpa [Addr.add] using this
    · simpa [Addr.add, hi0] using this

theorem isB_nil (W : World) : IsB W none 0 0 [] := ⟨rfl, Nat.le_refl _, by decide, .inl ⟨rfl, fun _ => rfl⟩⟩

end Go.Proofs.YtggjhbpggddjmaaGreat

/- The package sums: what On and Of return. -/
namespace Go.Proofs.YtggjhbpggddjmaaGreat
open Go.RowKit Go.ChangeShapes Go.WideShapes Go.ChangeAt
set_option linter.unusedVariables false

def stepN (s : Nat) (c : UInt8) : Nat := (s ^^^ c.toNat) * 16777619 % 4294967296

def onN (s : Nat) (l : List UInt8) : Nat := l.foldl stepN s

theorem stepN_lt (s : Nat) (c : UInt8) : stepN s c < 4294967296 := Nat.mod_lt _ (by decide)

theorem step_eq (s : Nat) (c : UInt8) (hs : s < 4294967296) :
    bits BinOp.xor IntKind.u32 (s : Int) (c.toNat : Int) * 16777619 % 4294967296 = (stepN s c : Int) := by
  have := c.toNat_lt
  rw [u32_xor_nat s c.toNat hs (by omega)]
  unfold stepN; omega

set_option maxHeartbeats 400000 in
theorem step_any (b : Nat) (s : Nat) (c : UInt8) (w : World) (hs : s < 4294967296) (hcell : w.cell? ⟨b, 0, none⟩ = some (.int .u32 s)) (hfr : w.frozen? ⟨b, 0, none⟩ = false) :
    Calls Tryz.prog 108 #[.pointer (some ⟨b, 0, none⟩), .int .u8 c.toNat] w fun e w' => e = .returned (.tuple #[]) ∧ w.setCell ⟨b, 0, none⟩ (.int .u32 (stepN s c)) = w' := by
  have h1 := u8_lt c
  have H : Hid _ := Lib.hid (step_eq s c hs)
  go_enter Tryz.func108, Tryz.ntmps108
  go_wp2
  go_end0
  exact ⟨rfl, by rw [H.out]⟩

theorem onN_take (n : Nat) (l : List UInt8) (k : Nat) (h : k < l.length) : onN n (l.take (k + 1)) = stepN (onN n (l.take k)) l[k] := by
  unfold onN
  rw [List.take_succ_eq_append_getElem h, List.foldl_append, List.foldl_cons, List.foldl_nil]

theorem onN_lt (n : Nat) (hn : n < 4294967296) (l : List UInt8) : onN n l < 4294967296 := by
  unfold onN
  induction l generalizing n with
  | nil => exact hn
  | cons c l ih => exact ih _ (stepN_lt _ _)

set_option maxHeartbeats 400000 in
theorem on_some (b off cap : Nat) (n : Nat) (l : List UInt8) (w : World) (hn : n < 4294967296) (hlen : l.length ≤ 9223372036854775807) (hb : b < w.heap.size)
    (hc : ∀ i (h : i < l.length), w.cell? ⟨b, off + i, none⟩ = some (.int .u8 l[i].toNat)) :
    Calls Tryz.prog 100 #[.int .u32 n, .slice (some ⟨b, off, none⟩) l.length cap] w fun e w' => e = .returned (.int .u32 (onN n l)) ∧ Below w.heap.size w w' := by
  go_enter Tryz.func100, Tryz.ntmps100
  go_wp2
  go_loopw [12] (fun i wr => ∃ k : Nat, k ≤ l.length ∧ i = .int .i64 k ∧ wr = w.alloc (Obj.cells #[.int .u32 (onN n (l.take k))] 163)) (fun i _ => l.length - (intOf i).toNat)
  case atStart => exact ⟨0, Nat.zero_le _, rfl, rfl⟩
  case round =>
    obtain ⟨k, hk, rfl, rfl⟩ := hrel
    by_cases hlt : k < l.length
    · have hcell := hc k hlt
      have hstep := onN_take n l k hlt
      have hl := onN_lt n hn (l.take k)
      have H : Hid _ := Lib.hid hstep
      clear hstep hc
      go_wp2_with (go_at_call 108; refine (step_any _ _ _ _ hl (by simp [go_sem]) (by simp [go_sem])).mono ?_; rintro e w' ⟨rfl, rfl⟩)
      go_roundw
      case rel => exact ⟨k + 1, by omega, by go_num, by rw [H.out]⟩
      case measure => simp [intOf]; omega
    · have hkk : k = l.length := by omega
      subst hkk
      go_wp2
      go_ret
      refine ⟨?_, (Below.refl _ _).alloc (Nat.le_refl _) _⟩
      simp

theorem on_nil (a : Option Addr) (c n : Nat) (w : World) (hn : n < 4294967296) :
    Calls Tryz.prog 100 #[.int .u32 n, .slice a 0 c] w fun e w' => e = .returned (.int .u32 n) ∧ Below w.heap.size w w' := by
  go_enter Tryz.func100, Tryz.ntmps100
  go_wp2
  go_loopw [12] (fun i wr => i = .int .i64 0 ∧ wr = w.alloc (Obj.cells #[.int .u32 n] 163)) (fun _ _ => 0)
  case atStart => exact ⟨rfl, rfl⟩
  case round =>
    obtain ⟨rfl, rfl⟩ := hrel
    go_wp2
    go_ret
    exact ⟨rfl, (Below.refl _ _).alloc (Nat.le_refl _) _⟩

theorem on_any (a : Option Addr) (m cap n : Nat) (l : List UInt8) (w : World) (hn : n < 4294967296) (h : IsB w a m cap l) :
    Calls Tryz.prog 100 #[.int .u32 n, .slice a m cap] w fun e w' => e = .returned (.int .u32 (onN n l)) ∧ Below w.heap.size w w' := by
  obtain ⟨rfl, h1, h2, ⟨rfl, _⟩ | ⟨b, off, rfl, hb, hc⟩⟩ := h
  · exact on_nil a cap n w hn
  · exact on_some b off cap n l w hn (by unfold maxLen at h2; omega) hb hc

theorem of_any (a : Option Addr) (m cap : Nat) (l : List UInt8) (w : World) (h : IsB w a m cap l) :
    Calls Tryz.prog 101 #[.slice a m cap] w fun e w' => e = .returned (.int .u32 (onN 2166136261 l)) ∧ Below w.heap.size w w' := by
  go_enter Tryz.func101, Tryz.ntmps101
  go_wp2_with (go_at_call 100; refine (on_any _ _ _ 2166136261 l _ (by decide) h).mono ?_; rintro e w' ⟨rfl, hb⟩)
  go_ret
  exact ⟨rfl, hb⟩

end Go.Proofs.YtggjhbpggddjmaaGreat
