/- The package sessions: Login; conditions: those typed. -/
import Derived.Test.YthadgnaaipdpaaaGreatDoorSess
namespace Go.Proofs.YthadgnaaipdpaaaGreatDoor
open Go.RowKit
set_option linter.unusedVariables false
set_option maxRecDepth 100000

set_option maxHeartbeats 1000000 in
theorem bidder_any (bt b1 b2 b3 : Nat) (T : Tbl) (k : UInt8) (w : World) (h : IsTbl w bt b1 b2 b3 T) :
    Calls Tryz.prog 35 #[.pointer (some ⟨bt, 0, none⟩), .int .u8 k.toNat] w fun e w' => e = .returned (.int .i64 (if T.bidder k then 0 else 9)) ∧ w = w' := by
  obtain ⟨f0, f1, f2⟩ := h.field
  obtain ⟨f, hm1, hr⟩ := h.m1
  have HH := Lib.hid h
  clear h
  have hk := hr k
  cases hs : T.secrets k with
  | none =>
    rw [hs] at hk
    have hw : T.bidder k = false := by unfold Tbl.bidder; rw [hs]; rfl
    rw [hw]
    have HT := Lib.hid hk
    clear hk hs hr hw
    go_enter Tryz.func35, Tryz.ntmps35
    go_wp2_with (first
      | (go_at_call 32; refine (there_ok bt b1 b2 b3 T _ HH.out).mono ?_; rintro e w' ⟨rfl, rfl⟩)
      | (at_lookup; refine wpList_lookup_f uk rfl _ _ 70 true rfl 24 Tryz.underlying70 (zeroBs _) b1 _ rfl hm1 k rfl ?_; rw [HT.out]; simp only [Option.getD_none, Option.isSome_none, if_true])
      | fail)
    go_ret
    exact ⟨rfl, rfl⟩
  | some l =>
    rw [hs] at hk
    obtain ⟨a, c, hf, hb⟩ := hk
    have HT := Lib.hid hf
    clear hf hb hr
    by_cases h0 : k.toNat = 0
    · have hw : T.bidder k = false := by unfold Tbl.bidder; simp [h0]
      rw [hw]
      have e0 : ((k.toNat : Int) == 0) = true := by rw [beq_iff_eq]; omega
      clear hs hw h0
      go_enter Tryz.func35, Tryz.ntmps35
      go_wp2_with (first
        | (go_at_call 32; refine (there_ok bt b1 b2 b3 T _ HH.out).mono ?_; rintro e w' ⟨rfl, rfl⟩)
        | (at_lookup; refine wpList_lookup_f uk rfl _ _ 70 true rfl 24 Tryz.underlying70 (zeroBs _) b1 _ rfl hm1 k rfl ?_; rw [HT.out]; simp only [Option.getD_some, Option.isSome_some, if_true])
        | fail)
      go_ret
      exact ⟨rfl, rfl⟩
    · have e0 : ((k.toNat : Int) == 0) = false := by rw [beq_eq_false_iff_ne]; omega
      by_cases h1 : k.toNat = 255
      · have hw : T.bidder k = false := by unfold Tbl.bidder; simp [h1]
        rw [hw]
        have e1 : ((k.toNat : Int) == 255) = true := by rw [beq_iff_eq]; omega
        clear hs hw h0 h1
        go_enter Tryz.func35, Tryz.ntmps35
        go_wp2_with (first
          | (go_at_call 32; refine (there_ok bt b1 b2 b3 T _ HH.out).mono ?_; rintro e w' ⟨rfl, rfl⟩)
          | (at_lookup; refine wpList_lookup_f uk rfl _ _ 70 true rfl 24 Tryz.underlying70 (zeroBs _) b1 _ rfl hm1 k rfl ?_; rw [HT.out]; simp only [Option.getD_some, Option.isSome_some, if_true])
          | fail)
        go_ret
        exact ⟨rfl, rfl⟩
      · have hw : T.bidder k = true := by unfold Tbl.bidder; simp [h0, h1, hs]
        rw [hw]
        have e1 : ((k.toNat : Int) == 255) = false := by rw [beq_eq_false_iff_ne]; omega
        clear hs hw h0 h1
        go_enter Tryz.func35, Tryz.ntmps35
        go_wp2_with (first
          | (go_at_call 32; refine (there_ok bt b1 b2 b3 T _ HH.out).mono ?_; rintro e w' ⟨rfl, rfl⟩)
          | (at_lookup; refine wpList_lookup_f uk rfl _ _ 70 true rfl 24 Tryz.underlying70 (zeroBs _) b1 _ rfl hm1 k rfl ?_; rw [HT.out]; simp only [Option.getD_some, Option.isSome_some, if_true])
          | fail)
        go_ret
        exact ⟨rfl, rfl⟩

/-- What Login answers to a wrong secret. -/
def Tbl.knows (T : Tbl) (k : UInt8) (l : List UInt8) : Prop := T.secrets k = some l ∧ l ≠ []

def drawV (d : List UInt8) : Value := .agg (d.map fun b => Value.int .u8 b.toNat).toArray

set_option maxHeartbeats 1000000 in
theorem login_no (bt b1 b2 b3 : Nat) (T : Tbl) (k : UInt8) (a : Option Addr) (n c : Nat) (l : List UInt8) (d : List UInt8) (w : World) (h : IsTbl w bt b1 b2 b3 T) (hl : IsB w a n c l) (hn : ¬ T.knows k l) :
    Calls Tryz.prog 11 #[.pointer (some ⟨bt, 0, none⟩), .int .u8 k.toNat, .slice a n c, drawV d] w fun e w' => e = .returned (.tuple #[.int .u64 0, .int .i64 9]) ∧ Below w.heap.size w w' := by
  obtain rfl := hl.1
  unfold drawV
  have hb : Below w.heap.size w (w.alloc (.cells (d.map fun b => Value.int .u8 b.toNat).toArray 30)) := (Below.refl _ _).alloc (Nat.le_refl _) _
  have h' := h.below hb
  have hl' := hl.below hb
  clear h hl
  obtain ⟨f0, f1, f2⟩ := h'.field
  obtain ⟨f, hm1, hr⟩ := h'.m1
  have HH := Lib.hid h'
  clear h'
  have HB := Lib.hid hb
  clear hb
  have hk := hr k
  cases hs : T.secrets k with
  | none =>
    rw [hs] at hk
    have HT := Lib.hid hk
    clear hk hs hr
    go_enter Tryz.func11, Tryz.ntmps11
    go_wp2_with (first
      | (go_at_call 32; refine (there_ok bt b1 b2 b3 T _ HH.out).mono ?_; rintro e w' ⟨rfl, rfl⟩)
      | (at_lookup; refine wpList_lookup_f uk rfl _ _ 70 true rfl 24 Tryz.underlying70 (zeroBs _) b1 _ rfl hm1 k rfl ?_; rw [HT.out]; simp only [Option.getD_none, Option.isSome_none, if_true])
      | fail)
    go_ret2
    exact ⟨rfl, HB.out⟩
  | some s =>
    rw [hs] at hk
    obtain ⟨a2, c2, hf, hb2, _⟩ := hk
    have HT := Lib.hid hf
    clear hf hr
    by_cases h0 : l.length = 0
    · have e0 : ((l.length : Int) == 0) = true := by rw [beq_iff_eq]; omega
      clear hs h0 hb2 hl' hn
      go_enter Tryz.func11, Tryz.ntmps11
      go_wp2_with (first
        | (go_at_call 32; refine (there_ok bt b1 b2 b3 T _ HH.out).mono ?_; rintro e w' ⟨rfl, rfl⟩)
        | (at_lookup; refine wpList_lookup_f uk rfl _ _ 70 true rfl 24 Tryz.underlying70 (zeroBs _) b1 _ rfl hm1 k rfl ?_; rw [HT.out]; simp only [Option.getD_some, Option.isSome_some, if_true])
        | fail)
      go_ret2
      exact ⟨rfl, HB.out⟩
    · have e0 : ((l.length : Int) == 0) = false := by rw [beq_eq_false_iff_ne]; omega
      have hq : decide (s = l) = false := decide_eq_false fun e => hn ⟨by rw [hs, e], fun e' => h0 (by rw [e']; rfl)⟩
      clear hs h0 hn
      go_enter Tryz.func11, Tryz.ntmps11
      go_wp2_with (first
        | (go_at_call 32; refine (there_ok bt b1 b2 b3 T _ HH.out).mono ?_; rintro e w' ⟨rfl, rfl⟩)
        | (at_lookup; refine wpList_lookup_f uk rfl _ _ 70 true rfl 24 Tryz.underlying70 (zeroBs _) b1 _ rfl hm1 k rfl ?_; rw [HT.out]; simp only [Option.getD_some, Option.isSome_some, if_true])
        | (go_at_call 33; refine (bequal_any _ _ _ _ _ _ s l _ hb2 hl').mono ?_; rintro e w' ⟨rfl, rfl⟩)
        | fail)
      go_ret2
      exact ⟨rfl, HB.out⟩

end Go.Proofs.YthadgnaaipdpaaaGreatDoor
