/- The package sessions: Seq; conditions: those typed. -/
import Derived.Test.YthadgnaaipdpaaaSessK
import Derived.Laws.StructEq
namespace Go.Proofs.Ythadgnaaipdpaaa
open Go.RowKit
set_option linter.unusedVariables false

set_option maxHeartbeats 400000 in
theorem clip_any (a : Option Addr) (n c : Nat) (w : World) (hn : n ≤ c) (hc : c ≤ maxLen) (ha : a = none → c = 0) :
    Calls Try.prog 19 #[.slice a n c] w fun e w' => e = .returned (.slice a n n) ∧ w = w' := by
  unfold maxLen at hc
  cases a with
  | none =>
    obtain rfl := ha rfl
    obtain rfl : n = 0 := by omega
    go_enter Try.func19, Try.ntmps19
    go_wp2
    go_ret
    exact ⟨rfl, rfl⟩
  | some x =>
    clear ha
    go_enter Try.func19, Try.ntmps19
    go_wp2
    go_ret
    exact ⟨rfl, rfl⟩

theorem isB_bytesRow (w : World) (l : List UInt8) (cap : Nat) (e : TypeId) (fz : Nat × Nat) (hm : l.length ≤ maxLen) : IsB (w.alloc (.cells (bytesRow (strB l) cap) e fz)) (some ⟨w.heap.size, 0, none⟩) l.length l.length l := by
  refine ⟨rfl, Nat.le_refl _, hm, .inr ⟨_, _, rfl, by simp, fun i hi => ?_⟩⟩
  rw [cell_of_block (heap_new w _), Nat.zero_add]
  have := Go.bytesRow_at (strB l) cap i (by unfold strB; simpa using hi)
  rw [this]
  unfold strB
  simp

set_option maxHeartbeats 2000000 in
theorem seq_done (bt b1 b2 b3 : Nat) (T : Tbl) (k : UInt8) (s : UInt32) (r : List UInt8) (w : World) (h : IsTbl w bt b1 b2 b3 T) (hk : T.bidder k = true) (hs : s ≠ 0) (hr : T.kept k = some (s, r)) (hm : r.length ≤ 140737488355328) :
    Calls Try.prog 11 #[.pointer (some ⟨bt, 0, none⟩), .int .u8 k.toNat, .int .u32 s.toNat, .int .u32 s.toNat] w fun e w' => ∃ a c, e = .returned (.tuple #[.slice a r.length c, .int .i64 11]) ∧ Below w.heap.size w w' ∧ IsB w' a r.length c r := by
  obtain ⟨f0, f1, f2⟩ := h.field
  obtain ⟨f, hm3, hr3⟩ := h.m3
  have hk3 := hr3 k
  rw [hr] at hk3
  obtain ⟨g, hg, hb⟩ := hk3
  have g0 : w.cell? ⟨g, 0, none⟩ = some (.int .u32 s.toNat) := by rw [cell_of_block hb]; rfl
  have g1 : w.cell? ⟨g, 1, none⟩ = some (.string (strB r)) := by rw [cell_of_block hb]; rfl
  have hst : Try.prog.stoodInHeld 63 = false := by kernel_rfl
  have heg : Try.prog.eqGuardType Try.prog.depth 63 = false := by kernel_rfl
  have d1 : decide ((s.toNat : Int) < (s.toNat : Int)) = false := by simp
  have d2 : ((s.toNat : Int) != (s.toNat : Int)) = false := by simp
  have d3 : ((s.toNat : Int) == 0) = false := by rw [beq_eq_false_iff_ne]; intro h; exact hs (UInt32.toNat_inj.1 (by simpa using h))
  have HH := Lib.hid h
  have HK := Lib.hid hk
  have HG := Lib.hid hg
  clear h hk hr3 hr hb hg hs
  go_enter Try.func11, Try.ntmps11
  go_wp2_with (first
    | (go_at_call 18; refine (bidder_any bt b1 b2 b3 T k _ HH.out).mono ?_; rintro e w' ⟨rfl, rfl⟩; rw [HK.out]; simp only [if_true])
    | (at_lookup; refine wpList_lookup_f uk rfl _ _ 55 false rfl 61 Try.underlying55 (zeroAns _) b3 _ rfl hm3 k rfl ?_; rw [HG.out]; simp only [Option.getD_some, Bool.false_eq_true, if_false])
    | fail)
  go_quiet (fail)
  have kc : ∀ W, (convert 9 24 (.string (strB r))).run Try.prog W = .ok (.slice (some ⟨W.heap.size, 0, none⟩) r.length (grownCap W r.length 0 5)) (W.drew.alloc (.cells (bytesRow (strB r) (grownCap W r.length 0 5)) 5 ((bytesRow (strB r) (grownCap W r.length 0 5)).size, (bytesRow (strB r) (grownCap W r.length 0 5)).size + 1))) := fun W =>
    run_bytes_of_string W _ _ _ (strB r) Try.underlying9 Try.underlying24 Try.underlying5
  go_wp2_with (first
    | (go_at_call 19; refine (clip_any _ _ _ _ (grownCap_ge _ _ _ _) (grownCap_le_maxLen _ _ _ _ (by unfold maxLen; omega)) (fun h => by cases h)).mono ?_; rintro e w' ⟨rfl, rfl⟩)
    | fail)
  go_ret2
  exact ⟨_, _, rfl, ((below_drewN (Below.refl _ w) _).drew).alloc (Nat.le_refl _) _, isB_bytesRow _ r _ _ _ (by unfold maxLen; omega)⟩

end Go.Proofs.Ythadgnaaipdpaaa
