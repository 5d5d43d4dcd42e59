/- The statements' helper lives of layer 23; no condition. -/
import Derived.Test.YthadgnaaipdpaaaGreatDoorSessN
namespace Go.Proofs.YthadgnaaipdpaaaGreatDoor
open Go.RowKit
set_option linter.unusedVariables false
set_option maxRecDepth 100000

theorem run_bytes_const_at (w : World) (C : Array Value) (n c k : Nat) (hk : k = w.heap.size) : (convert 24 24 (.slice (some ⟨k, 0, none⟩) n c)).run Tryz.prog (w.alloc (.cells C 5)) = .ok (.slice (some ⟨k, 0, none⟩) n c) (w.alloc (.cells C 5 (C.size, C.size + 1))) := by
  subst hk
  exact Lib.run_convert_bytes_const (P := Tryz.prog) w 24 5 C n c Tryz.underlying24 Tryz.underlying5

def zd : List UInt8 := List.replicate 16 0
theorem zd_length : zd.length = 16 := rfl
theorem zd_val : drawV zd = .agg #[.int .u8 0, .int .u8 0, .int .u8 0, .int .u8 0, .int .u8 0, .int .u8 0, .int .u8 0, .int .u8 0, .int .u8 0, .int .u8 0, .int .u8 0, .int .u8 0, .int .u8 0, .int .u8 0, .int .u8 0, .int .u8 0] := rfl
theorem tok_zd : tok zd = 1 := by decide
def lvA : Tbl := newT [[97]] [98] [99]
def lvB : Tbl := { lvA with tokens := fun j => if j = 1 then some (tok zd) else lvA.tokens j }
def lvC : Tbl := { lvB with kept := fun j => if j = 1 then some (4, [120]) else lvB.kept j }
theorem lvA_knows : lvA.knows 1 [97] := ⟨by decide, by simp⟩
theorem lvB_not : ¬ lvB.knows 0 [97] := fun h => by
  have : lvB.secrets 0 = some [98] := by decide
  rw [h.1] at this
  simp at this
theorem lvB_1 : lvB.seqE 1 1 0 = 0 := by decide
theorem lvB_2 : lvB.seqE 1 2 0 = 10 := by decide
theorem lvB_3 : lvB.seqE 1 0 0 = 10 := by decide
theorem lvB_b : lvB.bidder 1 = true := by decide
theorem lvC_4 : lvC.seqE 1 4 4 = 11 := by decide
theorem lvC_4r : lvC.seqR 1 4 4 = [120] := by decide
theorem lvC_5 : lvC.seqE 1 5 5 = 11 := by decide
theorem lvC_5r : lvC.seqR 1 5 5 = [] := by decide
theorem lvC_w : lvC.who 1 1 = 0 := by decide
theorem lvC_w0 : lvC.who 0 1 = 9 := by decide
theorem lvB_short : lvB.short := fun k s r h => by
  have : lvB.kept k = none := rfl
  rw [this] at h; cases h
theorem lvC_short : lvC.short := fun k s r h => by
  have e : lvC.kept k = if k = 1 then some (4, [120]) else none := rfl
  rw [e] at h
  split at h
  · simp at h
    rw [← h.2]; simp
  · cases h
theorem isB_frozen (w : World) (x : UInt8) (e : TypeId) (fz : Nat × Nat) : IsB (w.alloc (.cells #[.int .u8 x.toNat] e fz)) (some ⟨w.heap.size, 0, none⟩) 1 1 [x] := IsB.fresh w [x] _ e fz rfl 1 1 rfl rfl (by simp [maxLen])

theorem lives_cfg (w : World) : ∃ W, W = (((w.alloc (.cells #[.int .u8 97] 5 (1, 2))).alloc (.cells #[.slice (some ⟨w.heap.size, 0, none⟩) 1 1] 24)).alloc (.cells #[.int .u8 98] 5 (1, 2))).alloc (.cells #[.int .u8 99] 5 (1, 2)) ∧
    IsBB W 0 (some ⟨w.heap.size + 1, 0, none⟩) 1 1 [[97]] ∧ IsB W (some ⟨w.heap.size + 1 + 1, 0, none⟩) 1 1 [98] ∧ IsB W (some ⟨w.heap.size + 1 + 1 + 1, 0, none⟩) 1 1 [99] ∧ Below w.heap.size w W := by
  have al : ∀ (w : World) (o : Obj), Below w.heap.size w (w.alloc o) := fun w o => (Below.refl _ _).alloc (Nat.le_refl _) _
  have e1 : (w.alloc (.cells #[.int .u8 97] 5 (1, 2))).heap.size = w.heap.size + 1 := by simp
  have e2 : ((w.alloc (.cells #[.int .u8 97] 5 (1, 2))).alloc (.cells #[.slice (some ⟨w.heap.size, 0, none⟩) 1 1] 24)).heap.size = w.heap.size + 1 + 1 := by simp
  have e3 : (((w.alloc (.cells #[.int .u8 97] 5 (1, 2))).alloc (.cells #[.slice (some ⟨w.heap.size, 0, none⟩) 1 1] 24)).alloc (.cells #[.int .u8 98] 5 (1, 2))).heap.size = w.heap.size + 1 + 1 + 1 := by simp
  have h1 := isB_frozen w 97 5 (1, 2)
  have h2 := isB_frozen ((w.alloc (.cells #[.int .u8 97] 5 (1, 2))).alloc (.cells #[.slice (some ⟨w.heap.size, 0, none⟩) 1 1] 24)) 98 5 (1, 2)
  have h3 := isB_frozen (((w.alloc (.cells #[.int .u8 97] 5 (1, 2))).alloc (.cells #[.slice (some ⟨w.heap.size, 0, none⟩) 1 1] 24)).alloc (.cells #[.int .u8 98] 5 (1, 2))) 99 5 (1, 2)
  rw [e2] at h2
  rw [e3] at h3
  have hbb : IsBB ((w.alloc (.cells #[.int .u8 97] 5 (1, 2))).alloc (.cells #[.slice (some ⟨w.heap.size, 0, none⟩) 1 1] 24)) 0 (some ⟨w.heap.size + 1, 0, none⟩) 1 1 [[97]] := by
    refine ⟨rfl, Nat.le_refl _, by simp [maxLen], .inr ⟨_, _, rfl, Nat.zero_le _, by simp, fun i hi => ?_⟩⟩
    obtain rfl : i = 0 := by simp at hi; exact hi
    have hc := heap_new (w.alloc (.cells #[.int .u8 97] 5 (1, 2))) (.cells #[.slice (some ⟨w.heap.size, 0, none⟩) 1 1] 24)
    rw [e1] at hc
    exact ⟨_, by rw [cell_of_block hc]; rfl, _, _, _, rfl, h1.below (al _ _), fun _ _ _ _ => Nat.zero_le _⟩
  refine ⟨_, rfl, (hbb.below (al _ _)).below (al _ _), h2.below (al _ _), h3, ?_⟩
  exact ((((Below.refl _ _).alloc (Nat.le_refl _) _).alloc (by simp) _).alloc (by simp; omega) _).alloc (by simp; omega) _

set_option maxRecDepth 100000 in
set_option maxHeartbeats 4000000 in
theorem lives_any (w : World) :
    Calls Tryz.prog 4 #[] w fun e w' => e = .returned (.bool true) ∧ Below w.heap.size w w' := by
  have kc := run_bytes_const_at
  obtain ⟨W, hW, hL, ha, hu, hB0⟩ := lives_cfg w
  have HW := Lib.hid hW
  clear hW
  go_enter Tryz.func4, Tryz.ntmps4
  go_wp2_with (go_at_call 6; rw [← HW.out]; refine (snew_good _ _ _ 1 1 [[97]] _ 1 1 [98] _ 1 1 [99] W 0 hL ha hu (by decide) (by decide) (by simp) (by simp) (by simp)).mono ?_; rintro e w1 ⟨bt, b1, b2, b3, rfl, hb1, hT1, g1, g2, g3, g4⟩)
  have al : Hid (∀ (w : World) (o : Obj), Below w.heap.size w (w.alloc o)) := Lib.hid (fun w o => (Below.refl _ _).alloc (Nat.le_refl _) _)
  go_wp2_with fail
  refine (login_yes bt b1 b2 b3 lvA 1 _ 1 1 [97] zd _ (hT1.below (al.out _ _)) (isB_frozen w1 97 _ _) lvA_knows zd_length).mono ?_; rintro e w2 ⟨rfl, ht2, hT2⟩
  have hm2 := (hT1.below (al.out _ (.cells #[.int .u8 97] 5 (1, 2)))).maps
  have hb2 : Below W.heap.size W w2 := (hb1.alloc hb1.size _).trans (ht2.below (by simp; exact Nat.le_trans hb1.size (Nat.le_succ _)) (fun k hk e => by omega))
  rw [tok_zd]
  have hT2' : IsTbl w2 bt b1 b2 b3 lvB := hT2
  go_wp2_with fail
  refine (login_no bt b1 b2 b3 lvB 0 _ 1 1 [97] zd _ (hT2'.below (al.out _ _)) (isB_frozen w2 97 _ _) lvB_not).mono ?_; rintro e w3 ⟨rfl, hb3⟩
  have hT3 := (hT2'.below (al.out _ _)).below hb3
  have hb3' : Below W.heap.size W w3 := (hb2.alloc hb2.size _).trans (hb3.mono (by simp; exact Nat.le_trans hb2.size (Nat.le_succ _)))
  clear hT1 hT2 hT2' ht2 hm2 hb1 hb2 hb3
  go_wp2_with fail
  refine (seq_any bt b1 b2 b3 lvB 1 1 0 w3 hT3 lvB_short).mono ?_; rintro e w4 ⟨a4, c4, rfl, hb4, hB4, _⟩
  rw [lvB_1]
  have hT4 := hT3.below hb4
  have hb4' := hb3'.trans (hb4.mono hb3'.size)
  clear hT3 hb3' hb4 hB4
  go_wp2_with fail
  refine (seq_any bt b1 b2 b3 lvB 1 2 0 w4 hT4 lvB_short).mono ?_; rintro e w5 ⟨a5, c5, rfl, hb5, hB5, _⟩
  rw [lvB_2]
  have hT5 := hT4.below hb5
  have hb5' := hb4'.trans (hb5.mono hb4'.size)
  clear hT4 hb4' hb5 hB5
  go_wp2_with fail
  refine (seq_any bt b1 b2 b3 lvB 1 0 0 w5 hT5 lvB_short).mono ?_; rintro e w6 ⟨a6, c6, rfl, hb6, hB6, _⟩
  rw [lvB_3]
  have hT6 := hT5.below hb6
  have hb6' := hb5'.trans (hb6.mono hb5'.size)
  clear hT5 hb5' hb6 hB6
  go_wp2_with fail
  refine (keep_yes bt b1 b2 b3 lvB 1 4 _ 1 1 [120] _ (hT6.below (al.out _ _)) (isB_frozen w6 120 _ _) lvB_b).mono ?_; rintro e w7 ⟨rfl, ht7, hT7⟩
  have hb7' : Below W.heap.size W w7 := (hb6'.alloc hb6'.size _).trans (ht7.below (by simp; exact Nat.le_trans hb6'.size (Nat.le_succ _)) (fun k hk e => by omega))
  have hT7' : IsTbl w7 bt b1 b2 b3 lvC := hT7
  clear hT6 hb6' ht7 hT7
  go_wp2_with fail
  refine (seq_any bt b1 b2 b3 lvC 1 4 4 w7 hT7' lvC_short).mono ?_; rintro e w8 ⟨a8, c8, rfl, hb8, hB8, _⟩
  rw [lvC_4]
  rw [lvC_4r] at hB8 ⊢
  have hT8 := hT7'.below hb8
  have hb8' := hb7'.trans (hb8.mono hb7'.size)
  clear hT7' hb7' hb8
  go_wp2_with fail
  refine (seq_any bt b1 b2 b3 lvC 1 5 5 w8 hT8 lvC_short).mono ?_; rintro e w9 ⟨a9, c9, rfl, hb9, hB9, _⟩
  rw [lvC_5, lvC_5r]
  have hT9 := hT8.below hb9
  have hb9' := hb8'.trans (hb9.mono hb8'.size)
  have hB8' := hB8.below hb9
  have c1 : (convert 24 9 (.slice a8 1 c8)).run Tryz.prog w9 = .ok (.string (strB [120])) w9 := run_str_isB (P := Tryz.prog) Tryz.underlying24 Tryz.underlying5 Tryz.underlying9 hB8'
  clear hT8 hb8' hb9 hB9 hB8 hB8'
  go_wp2_with fail
  refine (who_any bt b1 b2 b3 lvC 1 1 w9 hT9).mono ?_; rintro e w10 ⟨rfl, rfl⟩
  rw [lvC_w]
  go_wp2_with fail
  refine (who_any bt b1 b2 b3 lvC 0 1 w9 hT9).mono ?_; rintro e w11 ⟨rfl, rfl⟩
  rw [lvC_w0]
  have e120 : (strB [120]).toList = [120] := strB_toList _
  go_wp2_with fail
  go_ret
  exact ⟨rfl, hB0.trans (hb9'.mono hB0.size)⟩

end Go.Proofs.YthadgnaaipdpaaaGreatDoor
