/- The package sessions: Seq and Keep; conditions: those typed. -/
import Derived.Test.YthadgnaaipdpaaaGreatDoorSessM
import Derived.RegionTactic
import Derived.ChangeAlike
namespace Go.Proofs.YthadgnaaipdpaaaGreatDoor
open Go.RowKit
set_option linter.unusedVariables false
set_option maxRecDepth 100000

/-- What Seq answers, but the bytes. -/
def Tbl.seqE (T : Tbl) (k : UInt8) (seq last : UInt32) : Int :=
  if T.bidder k = false then 9 else if seq.toNat = last.toNat + 1 then 0 else if seq = last ∧ seq ≠ 0 then 11 else 10
/-- The bytes that Seq answers. -/
def Tbl.seqR (T : Tbl) (k : UInt8) (seq last : UInt32) : List UInt8 :=
  if T.seqE k seq last = 11 then (match T.kept k with | some (s, r) => if s = seq then r else [] | none => []) else []

set_option maxHeartbeats 1000000 in
theorem keep_no (bt b1 b2 b3 : Nat) (T : Tbl) (k : UInt8) (s : UInt32) (a : Option Addr) (n c : Nat) (w : World) (h : IsTbl w bt b1 b2 b3 T) (hk : T.bidder k = false) :
    Calls Tryz.prog 19 #[.pointer (some ⟨bt, 0, none⟩), .int .u8 k.toNat, .int .u32 s.toNat, .slice a n c] w fun e w' => e = .returned (.int .i64 9) ∧ w = w' := by
  have HH := Lib.hid h
  have HK := Lib.hid hk
  clear h hk
  go_enter Tryz.func19, Tryz.ntmps19
  go_wp2_with (first
    | (go_at_call 35; refine (bidder_any bt b1 b2 b3 T k _ HH.out).mono ?_; rintro e w' ⟨rfl, rfl⟩; rw [HK.out]; simp only [Bool.false_eq_true, if_false])
    | fail)
  go_ret
  exact ⟨rfl, rfl⟩

theorem keep_end {w wA w2 : World} {bt b1 b2 b3 : Nat} {T : Tbl} {f : UInt8 → Option Value} {k : UInt8} {s : UInt32} {l : List UInt8} (h : IsTbl w bt b1 b2 b3 T) (hA : IsTbl wA bt b1 b2 b3 T) (hb : Below w.heap.size w wA)
    (hm3 : MapF uk wA b3 f) (hr3 : KeptRel wA f T.kept) (hd2 : MapF uk w2 b3 (fput f k (.pointer (some ⟨w.heap.size, 0, none⟩)))) (ht2 : Touch (fun k => k = b3) wA w2)
    (hnew : wA.heap[w.heap.size]? = some (.cells #[.int .u32 s.toNat, .string (strB l)] 92 (0, 0))) :
    Touch (fun k => k = b3) w w2 ∧ IsTbl w2 bt b1 b2 b3 { T with kept := fun j => if j = k then some (s, l) else T.kept j } := by
  have hmo : MapsOnly (fun k => k = b3) wA := hm3.only
  refine ⟨(Touch.of_below hb).trans ht2, ?_⟩
  obtain ⟨f1, hf1, hr1⟩ := hA.m1
  refine ⟨h.n12, h.n13, h.n23, ht2.heap hA.cells (hmo.cells hA.cells), ⟨f1, hf1.touch uk ht2 h.n13, hr1.keep ht2 hmo⟩, hA.m2.touch uk ht2 h.n23, ⟨_, hd2, fun j => ?_⟩⟩
  unfold fput
  have hr := (hr3.keep ht2 hmo) j
  show match (if j = k then some (s, l) else T.kept j) with | none => _ | some x => _
  by_cases hjk : j = k
  · rw [if_pos hjk, if_pos hjk]
    exact ⟨_, rfl, ht2.heap hnew (hmo.cells hnew)⟩
  · rw [if_neg hjk, if_neg hjk]
    exact hr

set_option maxHeartbeats 1000000 in
theorem keep_yes (bt b1 b2 b3 : Nat) (T : Tbl) (k : UInt8) (s : UInt32) (a : Option Addr) (n c : Nat) (l : List UInt8) (w : World) (h : IsTbl w bt b1 b2 b3 T) (hl : IsB w a n c l) (hk : T.bidder k = true) :
    Calls Tryz.prog 19 #[.pointer (some ⟨bt, 0, none⟩), .int .u8 k.toNat, .int .u32 s.toNat, .slice a n c] w fun e w' => e = .returned (.int .i64 0) ∧ Touch (fun k => k = b3) w w' ∧ IsTbl w' bt b1 b2 b3 { T with kept := fun j => if j = k then some (s, l) else T.kept j } := by
  have f2 := h.field.2.2
  have hba : Below w.heap.size w ((w.alloc (.cells #[.int .u32 s.toNat, .string (strB l)] 92)).drew) := ((Below.refl _ _).alloc (Nat.le_refl _) _).drew
  have hA := h.below hba
  obtain ⟨f3, hm3, hr3⟩ := hA.m3
  obtain ⟨w2, hrun0, hd2, ht2⟩ := hm3.store uk (t := 72) Tryz.underlying72 k (.pointer (some ⟨w.heap.size, 0, none⟩))
  have hrun : (Instr.mapUpdate 72 (.map (some b3)) (.int .u8 k.toNat) (.pointer (some ⟨w.heap.size, 0, none⟩))).run Tryz.prog ((w.alloc (.cells #[.int .u32 s.toNat, .string (strB l)] 92)).drew) = .ok () w2 := hrun0
  have hend := keep_end h hA hba hm3 hr3 hd2 ht2 (s := s) (l := l) (heap_new w _)
  have g2 := hA.field.2.2
  have c1 := run_str_isB (P := Tryz.prog) Tryz.underlying24 Tryz.underlying5 Tryz.underlying9 (hl.below ((Below.refl _ w).drew))
  have HH := Lib.hid h
  have HK := Lib.hid hk
  have HE := Lib.hid hend
  clear h hk hba hA hm3 hr3 hd2 ht2 hrun0 hl hend
  go_enter Tryz.func19, Tryz.ntmps19
  go_wp2_with (first
    | (go_at_call 35; refine (bidder_any bt b1 b2 b3 T k _ HH.out).mono ?_; rintro e w' ⟨rfl, rfl⟩; rw [HK.out]; simp only [if_true])
    | fail)
  go_region
  all_goals
    go_wp2_with fail
    go_ret
    exact ⟨rfl, HE.out⟩

end Go.Proofs.YthadgnaaipdpaaaGreatDoor
