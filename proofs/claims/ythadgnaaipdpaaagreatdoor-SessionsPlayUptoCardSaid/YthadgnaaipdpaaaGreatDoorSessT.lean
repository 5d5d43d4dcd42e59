/- The package sessions: Seq, all cases; conditions: those typed. -/
import Derived.Test.YthadgnaaipdpaaaGreatDoorSessS
namespace Go.Proofs.YthadgnaaipdpaaaGreatDoor
open Go.RowKit
set_option linter.unusedVariables false
set_option maxRecDepth 100000

set_option maxHeartbeats 1000000 in
theorem seq_no (bt b1 b2 b3 : Nat) (T : Tbl) (k : UInt8) (s l : UInt32) (w : World) (h : IsTbl w bt b1 b2 b3 T) (hk : T.bidder k = false) :
    Calls Tryz.prog 15 #[.pointer (some ⟨bt, 0, none⟩), .int .u8 k.toNat, .int .u32 s.toNat, .int .u32 l.toNat] w fun e w' => e = .returned (.tuple #[.slice none 0 0, .int .i64 9]) ∧ w = w' := by
  have HH := Lib.hid h
  have HK := Lib.hid hk
  clear h hk
  go_enter Tryz.func15, Tryz.ntmps15
  go_wp2_with (first
    | (go_at_call 35; refine (bidder_any bt b1 b2 b3 T k _ HH.out).mono ?_; rintro e w' ⟨rfl, rfl⟩; rw [HK.out]; simp only [Bool.false_eq_true, if_false])
    | fail)
  go_ret2
  exact ⟨rfl, rfl⟩

set_option maxHeartbeats 1000000 in
theorem seq_next (bt b1 b2 b3 : Nat) (T : Tbl) (k : UInt8) (s l : UInt32) (w : World) (h : IsTbl w bt b1 b2 b3 T) (hk : T.bidder k = true) (hs : s.toNat = l.toNat + 1) :
    Calls Tryz.prog 15 #[.pointer (some ⟨bt, 0, none⟩), .int .u8 k.toNat, .int .u32 s.toNat, .int .u32 l.toNat] w fun e w' => e = .returned (.tuple #[.slice none 0 0, .int .i64 0]) ∧ w = w' := by
  have HH := Lib.hid h
  have HK := Lib.hid hk
  have d1 : decide (l.toNat < s.toNat) = true := by rw [decide_eq_true_eq]; omega
  have w1 : ((((s.toNat : Int) - (l.toNat : Int)) % 4294967296) == 1) = true := by rw [beq_iff_eq]; omega
  have w2 : ((s.toNat : Int) - (l.toNat : Int)) % 4294967296 = 1 := by omega
  clear h hk hs
  go_enter Tryz.func15, Tryz.ntmps15
  go_wp2_with (first
    | (go_at_call 35; refine (bidder_any bt b1 b2 b3 T k _ HH.out).mono ?_; rintro e w' ⟨rfl, rfl⟩; rw [HK.out]; simp only [if_true])
    | fail)
  go_ret2
  exact ⟨rfl, rfl⟩

set_option maxHeartbeats 1000000 in
theorem seq_far (bt b1 b2 b3 : Nat) (T : Tbl) (k : UInt8) (s l : UInt32) (w : World) (h : IsTbl w bt b1 b2 b3 T) (hk : T.bidder k = true) (hs : l.toNat + 1 < s.toNat) :
    Calls Tryz.prog 15 #[.pointer (some ⟨bt, 0, none⟩), .int .u8 k.toNat, .int .u32 s.toNat, .int .u32 l.toNat] w fun e w' => e = .returned (.tuple #[.slice none 0 0, .int .i64 10]) ∧ w = w' := by
  have HH := Lib.hid h
  have HK := Lib.hid hk
  have d1 : decide (l.toNat < s.toNat) = true := by rw [decide_eq_true_eq]; omega
  have d4 : ((s.toNat : Int) != (l.toNat : Int)) = true := by rw [bne_iff_ne]; omega
  have hlt := s.toNat_lt
  have d2 : ((((s.toNat : Int) - (l.toNat : Int)) % 4294967296) == 1) = false := by rw [beq_eq_false_iff_ne]; omega
  have d6 : ¬ ((s.toNat : Int) - (l.toNat : Int)) % 4294967296 = 1 := by omega
  clear h hk hs hlt
  go_enter Tryz.func15, Tryz.ntmps15
  go_wp2_with (first
    | (go_at_call 35; refine (bidder_any bt b1 b2 b3 T k _ HH.out).mono ?_; rintro e w' ⟨rfl, rfl⟩; rw [HK.out]; simp only [if_true])
    | fail)
  go_ret2
  exact ⟨rfl, rfl⟩

set_option maxHeartbeats 1000000 in
theorem seq_less (bt b1 b2 b3 : Nat) (T : Tbl) (k : UInt8) (s l : UInt32) (w : World) (h : IsTbl w bt b1 b2 b3 T) (hk : T.bidder k = true) (hs : s.toNat < l.toNat) :
    Calls Tryz.prog 15 #[.pointer (some ⟨bt, 0, none⟩), .int .u8 k.toNat, .int .u32 s.toNat, .int .u32 l.toNat] w fun e w' => e = .returned (.tuple #[.slice none 0 0, .int .i64 10]) ∧ w = w' := by
  have HH := Lib.hid h
  have HK := Lib.hid hk
  have d1 : decide (l.toNat < s.toNat) = false := by rw [decide_eq_false_iff_not]; omega
  have d4 : ((s.toNat : Int) != (l.toNat : Int)) = true := by rw [bne_iff_ne]; omega
  clear h hk hs
  go_enter Tryz.func15, Tryz.ntmps15
  go_wp2_with (first
    | (go_at_call 35; refine (bidder_any bt b1 b2 b3 T k _ HH.out).mono ?_; rintro e w' ⟨rfl, rfl⟩; rw [HK.out]; simp only [if_true])
    | fail)
  go_ret2
  exact ⟨rfl, rfl⟩

set_option maxHeartbeats 1000000 in
theorem seq_zero (bt b1 b2 b3 : Nat) (T : Tbl) (k : UInt8) (w : World) (h : IsTbl w bt b1 b2 b3 T) (hk : T.bidder k = true) :
    Calls Tryz.prog 15 #[.pointer (some ⟨bt, 0, none⟩), .int .u8 k.toNat, .int .u32 0, .int .u32 0] w fun e w' => e = .returned (.tuple #[.slice none 0 0, .int .i64 10]) ∧ w = w' := by
  have HH := Lib.hid h
  have HK := Lib.hid hk
  clear h hk
  go_enter Tryz.func15, Tryz.ntmps15
  go_wp2_with (first
    | (go_at_call 35; refine (bidder_any bt b1 b2 b3 T k _ HH.out).mono ?_; rintro e w' ⟨rfl, rfl⟩; rw [HK.out]; simp only [if_true])
    | fail)
  go_ret2
  exact ⟨rfl, rfl⟩

set_option maxHeartbeats 1000000 in
theorem seq_none (bt b1 b2 b3 : Nat) (T : Tbl) (k : UInt8) (s : UInt32) (w : World) (h : IsTbl w bt b1 b2 b3 T) (hk : T.bidder k = true) (hs : s ≠ 0) (hr : T.kept k = none) :
    Calls Tryz.prog 15 #[.pointer (some ⟨bt, 0, none⟩), .int .u8 k.toNat, .int .u32 s.toNat, .int .u32 s.toNat] w fun e w' => e = .returned (.tuple #[.slice none 0 0, .int .i64 11]) ∧ Below w.heap.size w w' := by
  obtain ⟨f0, f1, f2⟩ := h.field
  obtain ⟨f, hm3, hr3⟩ := h.m3
  have hg := hr3 k
  rw [hr] at hg
  have d1 : decide ((s.toNat : Int) < (s.toNat : Int)) = false := by simp
  have d2 : ((s.toNat : Int) != (s.toNat : Int)) = false := by simp
  have d3 : ((s.toNat : Int) == 0) = false := by rw [beq_eq_false_iff_ne]; intro h; exact hs (UInt32.toNat_inj.1 (by simpa using h))
  have HH := Lib.hid h
  have HK := Lib.hid hk
  have HG := Lib.hid hg
  clear h hk hr3 hr hg hs
  go_enter Tryz.func15, Tryz.ntmps15
  go_wp2_with (first
    | (go_at_call 35; refine (bidder_any bt b1 b2 b3 T k _ HH.out).mono ?_; rintro e w' ⟨rfl, rfl⟩; rw [HK.out]; simp only [if_true])
    | (at_lookup; refine wpList_lookup_f uk rfl _ _ 72 false rfl 90 Tryz.underlying72 (zeroAns _) b3 _ rfl hm3 k rfl ?_; rw [HG.out]; simp only [Option.getD_none, Bool.false_eq_true, if_false])
    | fail)
  go_quiet (fail)
  go_wp2_with fail
  go_ret2
  exact ⟨rfl, below_drewN (Below.refl _ w) _⟩

set_option maxHeartbeats 2000000 in
theorem seq_other (bt b1 b2 b3 : Nat) (T : Tbl) (k : UInt8) (s t : UInt32) (r : List UInt8) (w : World) (h : IsTbl w bt b1 b2 b3 T) (hk : T.bidder k = true) (hs : s ≠ 0) (hr : T.kept k = some (t, r)) (ht : t ≠ s) :
    Calls Tryz.prog 15 #[.pointer (some ⟨bt, 0, none⟩), .int .u8 k.toNat, .int .u32 s.toNat, .int .u32 s.toNat] w fun e w' => e = .returned (.tuple #[.slice none 0 0, .int .i64 11]) ∧ Below w.heap.size w w' := by
  obtain ⟨f0, f1, f2⟩ := h.field
  obtain ⟨f, hm3, hr3⟩ := h.m3
  have hk3 := hr3 k
  rw [hr] at hk3
  obtain ⟨g, hg, hb⟩ := hk3
  have g0 : w.cell? ⟨g, 0, none⟩ = some (.int .u32 t.toNat) := by rw [cell_of_block hb]; rfl
  have g1 : w.cell? ⟨g, 1, none⟩ = some (.string (strB r)) := by rw [cell_of_block hb]; rfl
  have hst : Tryz.prog.stoodInHeld 92 = false := by kernel_rfl
  have heg : Tryz.prog.eqGuardType Tryz.prog.depth 92 = false := by kernel_rfl
  have d1 : decide ((s.toNat : Int) < (s.toNat : Int)) = false := by simp
  have d2 : ((s.toNat : Int) != (s.toNat : Int)) = false := by simp
  have d3 : ((s.toNat : Int) == 0) = false := by rw [beq_eq_false_iff_ne]; intro h; exact hs (UInt32.toNat_inj.1 (by simpa using h))
  have d5 : ((t.toNat : Int) == (s.toNat : Int)) = false := by rw [beq_eq_false_iff_ne]; intro h; exact ht (UInt32.toNat_inj.1 (by omega))
  have HH := Lib.hid h
  have HK := Lib.hid hk
  have HG := Lib.hid hg
  clear h hk hr3 hr hb hg hs ht
  go_enter Tryz.func15, Tryz.ntmps15
  go_wp2_with (first
    | (go_at_call 35; refine (bidder_any bt b1 b2 b3 T k _ HH.out).mono ?_; rintro e w' ⟨rfl, rfl⟩; rw [HK.out]; simp only [if_true])
    | (at_lookup; refine wpList_lookup_f uk rfl _ _ 72 false rfl 90 Tryz.underlying72 (zeroAns _) b3 _ rfl hm3 k rfl ?_; rw [HG.out]; simp only [Option.getD_some, Bool.false_eq_true, if_false])
    | fail)
  go_quiet (fail)
  go_wp2_with fail
  go_ret2
  exact ⟨rfl, below_drewN (Below.refl _ w) _⟩

/-- All kept answers are short enough to be told. -/
def Tbl.short (T : Tbl) : Prop := ∀ k s r, T.kept k = some (s, r) → r.length ≤ 140737488355328

theorem seq_any (bt b1 b2 b3 : Nat) (T : Tbl) (k : UInt8) (s l : UInt32) (w : World) (h : IsTbl w bt b1 b2 b3 T) (hsh : T.short) :
    Calls Tryz.prog 15 #[.pointer (some ⟨bt, 0, none⟩), .int .u8 k.toNat, .int .u32 s.toNat, .int .u32 l.toNat] w fun e w' => ∃ a c, e = .returned (.tuple #[.slice a (T.seqR k s l).length c, .int .i64 (T.seqE k s l)]) ∧ Below w.heap.size w w' ∧ IsB w' a (T.seqR k s l).length c (T.seqR k s l) ∧ NewB w w' a (T.seqR k s l).length c := by
  cases hk : T.bidder k with
  | false =>
    have e1 : T.seqE k s l = 9 := by unfold Tbl.seqE; rw [if_pos hk]
    have e2 : T.seqR k s l = [] := by unfold Tbl.seqR; rw [e1]; rfl
    rw [e1, e2]
    refine (seq_no bt b1 b2 b3 T k s l w h hk).mono ?_
    rintro e w' ⟨rfl, rfl⟩
    exact ⟨none, 0, rfl, Below.refl _ _, IsB.nil _, NewB.nil _ _⟩
  | true =>
    have hk' : ¬ T.bidder k = false := by rw [hk]; simp
    by_cases h1 : s.toNat = l.toNat + 1
    · have e1 : T.seqE k s l = 0 := by unfold Tbl.seqE; rw [if_neg hk', if_pos h1]
      have e2 : T.seqR k s l = [] := by unfold Tbl.seqR; rw [e1]; rfl
      rw [e1, e2]
      refine (seq_next bt b1 b2 b3 T k s l w h hk h1).mono ?_
      rintro e w' ⟨rfl, rfl⟩
      exact ⟨none, 0, rfl, Below.refl _ _, IsB.nil _, NewB.nil _ _⟩
    by_cases h2 : s = l ∧ s ≠ 0
    · have e1 : T.seqE k s l = 11 := by unfold Tbl.seqE; rw [if_neg hk', if_neg h1, if_pos h2]
      obtain ⟨rfl, h3⟩ := h2
      rw [e1]
      cases hr : T.kept k with
      | none =>
        have e2 : T.seqR k s s = [] := by unfold Tbl.seqR; rw [if_pos e1, hr]
        rw [e2]
        refine (seq_none bt b1 b2 b3 T k s w h hk h3 hr).mono ?_
        rintro e w' ⟨rfl, hb⟩
        exact ⟨none, 0, rfl, hb, IsB.nil _, NewB.nil _ _⟩
      | some x =>
        obtain ⟨t, r⟩ := x
        by_cases h4 : t = s
        · subst h4
          have e2 : T.seqR k t t = r := by unfold Tbl.seqR; rw [if_pos e1, hr]; exact if_pos rfl
          rw [e2]
          exact seq_done bt b1 b2 b3 T k t r w h hk h3 hr (hsh k t r hr)
        · have e2 : T.seqR k s s = [] := by unfold Tbl.seqR; rw [if_pos e1, hr]; exact if_neg h4
          rw [e2]
          refine (seq_other bt b1 b2 b3 T k s t r w h hk h3 hr h4).mono ?_
          rintro e w' ⟨rfl, hb⟩
          exact ⟨none, 0, rfl, hb, IsB.nil _, NewB.nil _ _⟩
    · have e1 : T.seqE k s l = 10 := by unfold Tbl.seqE; rw [if_neg hk', if_neg h1, if_neg h2]
      have e2 : T.seqR k s l = [] := by unfold Tbl.seqR; rw [e1]; rfl
      rw [e1, e2]
      have key : ∀ (e : Ending) (w' : World), (e = .returned (.tuple #[.slice none 0 0, .int .i64 10]) ∧ w = w') → ∃ a c, e = .returned (.tuple #[.slice a ([] : List UInt8).length c, .int .i64 10]) ∧ Below w.heap.size w w' ∧ IsB w' a ([] : List UInt8).length c [] ∧ NewB w w' a ([] : List UInt8).length c := by
        rintro e w' ⟨rfl, rfl⟩
        exact ⟨none, 0, rfl, Below.refl _ _, IsB.nil _, NewB.nil _ _⟩
      rcases Nat.lt_trichotomy s.toNat l.toNat with h3 | h3 | h3
      · exact (seq_less bt b1 b2 b3 T k s l w h hk h3).mono key
      · obtain rfl := UInt32.toNat_inj.1 h3
        have h0 : s = 0 := Classical.byContradiction fun h0 => h2 ⟨rfl, h0⟩
        subst h0
        exact (seq_zero bt b1 b2 b3 T k w h hk).mono key
      · exact (seq_far bt b1 b2 b3 T k s l w h hk (by omega)).mono key

end Go.Proofs.YthadgnaaipdpaaaGreatDoor
