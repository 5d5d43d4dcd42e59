/- The package sessions: Seq; conditions: those typed. -/
import Derived.Test.YthadgnaaipdpaaaGreatDoorSessK
import Derived.Laws.StructEq
namespace Go.Proofs.YthadgnaaipdpaaaGreatDoor
open Go.RowKit
set_option linter.unusedVariables false
set_option maxRecDepth 100000

set_option maxHeartbeats 400000 in
theorem clip_any (a : Option Addr) (n c : Nat) (w : World) (hn : n ≤ c) (hc : c ≤ maxLen) (ha : a = none → c = 0) :
    Calls Tryz.prog 36 #[.slice a n c] w fun e w' => e = .returned (.slice a n n) ∧ w = w' := by
  unfold maxLen at hc
  cases a with
  | none =>
    obtain rfl := ha rfl
    obtain rfl : n = 0 := by omega
    go_enter Tryz.func36, Tryz.ntmps36
    go_wp2
    go_ret
    exact ⟨rfl, rfl⟩
  | some x =>
    clear ha
    go_enter Tryz.func36, Tryz.ntmps36
    go_wp2
    go_ret
    exact ⟨rfl, rfl⟩

/-- Bytes in a new block, or none. -/
def NewB (w w' : World) (a : Option Addr) (n c : Nat) : Prop := (a = none ∧ n = 0 ∧ c = 0) ∨ ∃ g, a = some ⟨g, 0, none⟩ ∧ w.heap.size ≤ g ∧ ∃ (cur : List Value) (fz : Nat × Nat), w'.heap[g]? = some (.cells cur.toArray 5 fz) ∧ (fz = (0, 0) ∨ cur.length ≤ fz.1) ∧ n ≤ c ∧ c ≤ cur.length ∧ c ≤ maxLen
theorem NewB.nil (w w' : World) : NewB w w' none 0 0 := .inl ⟨rfl, rfl, rfl⟩
theorem newB_row (w : World) (l : List UInt8) (cap : Nat) (k : Nat) (hm : l.length ≤ maxLen) : ∃ (cur : List Value) (fz : Nat × Nat), (w.alloc (.cells (bytesRow (strB l) cap) 5 ((bytesRow (strB l) cap).size, k))).heap[w.heap.size]? = some (.cells cur.toArray 5 fz) ∧ (fz = (0, 0) ∨ cur.length ≤ fz.1) ∧ l.length ≤ l.length ∧ l.length ≤ cur.length ∧ l.length ≤ maxLen := by
  refine ⟨(bytesRow (strB l) cap).toList, _, heap_new w _, .inr (by simp), Nat.le_refl _, ?_, hm⟩
  have : (strB l).data.size = l.length := by unfold strB; simp
  simp [bytesRow, this]
theorem isB_bytesRow (w : World) (l : List UInt8) (cap : Nat) (e : TypeId) (fz : Nat × Nat) (hm : l.length ≤ maxLen) : IsB (w.alloc (.cells (bytesRow (strB l) cap) e fz)) (some ⟨w.heap.size, 0, none⟩) l.length l.length l := by
  refine ⟨rfl, Nat.le_refl _, hm, .inr ⟨_, _, rfl, by simp, fun i hi => ?_⟩⟩
  rw [cell_of_block (heap_new w _), Nat.zero_add]
  have := Go.bytesRow_at (strB l) cap i (by unfold strB; simpa using hi)
  rw [this]
  unfold strB
  simp

set_option maxHeartbeats 2000000 in
theorem seq_done (bt b1 b2 b3 : Nat) (T : Tbl) (k : UInt8) (s : UInt32) (r : List UInt8) (w : World) (h : IsTbl w bt b1 b2 b3 T) (hk : T.bidder k = true) (hs : s ≠ 0) (hr : T.kept k = some (s, r)) (hm : r.length ≤ 140737488355328) :
    Calls Tryz.prog 15 #[.pointer (some ⟨bt, 0, none⟩), .int .u8 k.toNat, .int .u32 s.toNat, .int .u32 s.toNat] w fun e w' => ∃ a c, e = .returned (.tuple #[.slice a r.length c, .int .i64 11]) ∧ Below w.heap.size w w' ∧ IsB w' a r.length c r ∧ NewB w w' a r.length c := by
  obtain ⟨f0, f1, f2⟩ := h.field
  obtain ⟨f, hm3, hr3⟩ := h.m3
  have hk3 := hr3 k
  rw [hr] at hk3
  obtain ⟨g, hg, hb⟩ := hk3
  have g0 : w.cell? ⟨g, 0, none⟩ = some (.int .u32 s.toNat) := by rw [cell_of_block hb]; rfl
  have g1 : w.cell? ⟨g, 1, none⟩ = some (.string (strB r)) := by rw [cell_of_block hb]; rfl
  have hst : Tryz.prog.stoodInHeld 92 = false := by kernel_rfl
  have heg : Tryz.prog.eqGuardType Tryz.prog.depth 92 = false := by kernel_rfl
  have d1 : decide ((s.toNat : Int) < (s.toNat : Int)) = false := by simp
  have d2 : ((s.toNat : Int) != (s.toNat : Int)) = false := by simp
  have d3 : ((s.toNat : Int) == 0) = false := by rw [beq_eq_false_iff_ne]; intro h; exact hs (UInt32.toNat_inj.1 (by simpa using h))
  have HH := Lib.hid h
  have HK := Lib.hid hk
  have HG := Lib.hid hg
  clear h hk hr3 hr hb hg hs
  go_enter Tryz.func15, Tryz.ntmps15
  go_wp2_with (first
    | (go_at_call 35; refine (bidder_any bt b1 b2 b3 T k _ HH.out).mono ?_; rintro e w' ⟨rfl, rfl⟩; rw [HK.out]; simp only [if_true])
    | (at_lookup; refine wpList_lookup_f uk rfl _ _ 72 false rfl 90 Tryz.underlying72 (zeroAns _) b3 _ rfl hm3 k rfl ?_; rw [HG.out]; simp only [Option.getD_some, Bool.false_eq_true, if_false])
    | fail)
  go_quiet (fail)
  have kc : ∀ W, (convert 9 24 (.string (strB r))).run Tryz.prog W = .ok (.slice (some ⟨W.heap.size, 0, none⟩) r.length (grownCap W r.length 0 5)) (W.drew.alloc (.cells (bytesRow (strB r) (grownCap W r.length 0 5)) 5 ((bytesRow (strB r) (grownCap W r.length 0 5)).size, (bytesRow (strB r) (grownCap W r.length 0 5)).size + 1))) := fun W =>
    run_bytes_of_string W _ _ _ (strB r) Tryz.underlying9 Tryz.underlying24 Tryz.underlying5
  go_wp2_with (first
    | (go_at_call 36; refine (clip_any _ _ _ _ (grownCap_ge _ _ _ _) (grownCap_le_maxLen _ _ _ _ (by unfold maxLen; omega)) (fun h => by cases h)).mono ?_; rintro e w' ⟨rfl, rfl⟩)
    | fail)
  go_ret2
  refine ⟨_, _, rfl, ((below_drewN (Below.refl _ w) _).drew).alloc (Nat.le_refl _) _, isB_bytesRow _ r _ _ _ (by unfold maxLen; omega), .inr ⟨_, rfl, ?_, newB_row _ r _ _ (by unfold maxLen; omega)⟩⟩
  exact Nat.le_refl _

end Go.Proofs.YthadgnaaipdpaaaGreatDoor
