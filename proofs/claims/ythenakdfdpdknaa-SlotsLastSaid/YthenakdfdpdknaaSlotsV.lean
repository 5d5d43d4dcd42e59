/- The statements' helper lives of layer 19; no condition. -/
import Derived.Test.YthenakdfdpdknaaSlotsLaw2
import Derived.Test.YthenakdfdpdknaaBytesF
namespace Go.Proofs.Ythenakdfdpdknaa
open Go.RowKit
set_option linter.unusedVariables false

theorem PutFull.fine {D D' : Dsk} {p m : Nat} {b : List UInt8} {k : Int} (h : PutFull D D' p m b) (hk : D.fine k) (hb : b.length ≤ 320) : D'.fine (k + 6) := by
  have hs : secsOf b ≤ 5 := by unfold secsOf; omega
  refine ⟨?_, ?_, ?_⟩
  · rw [h.writes]; have := hk.1; omega
  · rw [h.writes]; have := hk.2.1; omega
  · rw [h.left]; have := hk.2.2; unfold lessLeft; split <;> omega
theorem PutFull.free {D D' : Dsk} {p m : Nat} {b : List UInt8} (h : PutFull D D' p m b) (hl : D.left = -1) : D'.left = -1 := by rw [h.left, hl]; rfl
theorem free_room {D : Dsk} (hB : D.blown = false) (hl : D.left = -1) (j : Nat) : D.room j := ⟨hB, .inl (by omega)⟩
theorem newD_room (n j : Nat) : (newD n).room j := ⟨rfl, .inl (by show (-1 : Int) < 0; decide)⟩
theorem newD_fine (n : Nat) : (newD n).fine 0 := ⟨by show (0 : Int) ≤ 0; decide, by show (0 : Int) ≤ 0; decide, by show (-1 : Int) ≤ _; decide⟩
theorem IsDisk.good {w : World} {bd bl : Nat} {D : Dsk} (h : IsDisk w bd bl D) : D.good := h.secs
theorem new_disk (n : Nat) (nI : Int) (w : World) (hI : nI = (n : Int)) (h1 : 1 ≤ n) (h2 : n ≤ 1024) :
    Calls Try.prog 8 #[.int .i64 nI] w fun e w' => ∃ bd bl, e = .returned (.tuple #[.pointer (some ⟨bd, 0, none⟩), .int .i64 0]) ∧ Below w.heap.size w w' ∧ w.heap.size ≤ bd ∧ w.heap.size ≤ bl ∧ IsDisk w' bd bl (newD n) := by
  subst hI
  exact new_good n w h1 h2
theorem frozen1 (w : World) (x : UInt8) (e : TypeId) (fz : Nat × Nat) : IsB (w.alloc (.cells #[.int .u8 x.toNat] e fz)) (some ⟨w.heap.size, 0, none⟩) 1 1 [x] := IsB.fresh w [x] _ e fz rfl 1 1 rfl rfl (by simp [maxLen])

theorem lv_1 : ∃ D1, ((newD 24).put 0 1 [97]) = (0, D1) ∧ PutFull (newD 24) D1 0 1 [97] := by
  have := put_full (D := newD 24) (newD_good 24) 0 1 [97] (by rw [newD_len]; decide) (by decide) (by decide) (by rw [newD_newest]; decide) (newD_room _ _)
  exact ⟨_, Prod.ext this.1 rfl, this.2⟩

set_option maxRecDepth 100000 in
set_option maxHeartbeats 4000000 in
theorem lives_any (w : World) :
    Calls Try.prog 7 #[] w fun e w' => e = .returned (.bool true) ∧ Below w.heap.size w w' := by
  have kc := fun (w : World) (C : Array Value) (n c : Nat) => Lib.run_convert_bytes_const (P := Try.prog) w 23 5 C n c Try.underlying23 Try.underlying5
  obtain ⟨D1, hp1, hf1⟩ := lv_1
  have HF := Lib.hid hf1
  have hlen1 : D1.secs.length = 24 := hf1.len.trans (newD_len 24)
  have hfine1 := hf1.fine (newD_fine 24) (by decide)
  have hg0 : D1.get 0 = (1, [97], 0) := by
    rw [show (0 : Int) = ((0 : Nat) : Int) from rfl, get_is 0 (by omega), hf1.new]; rfl
  have hg12 : D1.get 12 = (0, [], 0) := by
    rw [show (12 : Int) = ((12 : Nat) : Int) from rfl, get_is 12 (by omega), newestW_same (D := newD 24) (D' := D1) 12 (fun i hi => hf1.far _ (by omega)), newD_newest]
  have ho : D1.put 0 1 [98] = (10, D1) := put_old 0 1 [98] (by omega) (by decide) (by rw [hf1.new]; decide)
  have ha : D1.put 13 1 [] = (1, D1) := by unfold Dsk.put; rw [if_pos (by omega)]
  have HP1 := Lib.hid hp1
  have HG0 := Lib.hid hg0
  have HG12 := Lib.hid hg12
  have HO := Lib.hid ho
  have HA := Lib.hid ha
  have HFI := Lib.hid hfine1
  clear hp1 hf1 hlen1 hg0 hg12 ho ha hfine1
  go_enter Try.func7, Try.ntmps7
  go_wp2_with fail
  refine (new_disk 24 24 w rfl (by decide) (by decide)).mono ?_; rintro e w1 ⟨bd, bl, rfl, hb1, g1, g2, hd1⟩
  have hlt1 := hd1.lt
  go_wp2_with fail
  refine (put_any bd bl (newD 24) 0 1 _ 1 1 [97] 0 _ (hd1.touch (Touch.of_below (S := fun _ => False) ((Below.refl _ _).alloc (Nat.le_refl _) _)) id id) (frozen1 w1 97 _ _) (fun x off h _ => by cases h; omega) (newD_fine 24) (by decide) (by decide)).mono ?_; rintro e w2 ⟨rfl, ht2, hd2⟩
  rw [HP1.out] at hd2 ⊢
  have hb2 : Below w.heap.size w w2 := (hb1.alloc hb1.size _).trans (ht2.below (by simp; exact Nat.le_trans hb1.size (Nat.le_succ _)) (fun k hk e => by omega))
  have hd2' : IsDisk w2 bd bl D1 := hd2
  have hlt2 := hd2'.lt
  clear hb1 hd1 ht2 hd2 hlt1
  go_wp2_with fail
  refine (get_any bd bl D1 0 w2 hd2').mono ?_; rintro e w3 ⟨a3, rfl, hb3, hi3⟩
  rw [HG0.out] at hi3 ⊢
  have hd3 := hd2'.touch (Touch.of_below (S := fun _ => False) hb3) id id
  have hb3' := hb2.trans (hb3.mono hb2.size)
  clear hb2 hd2' hb3
  go_wp2_with fail
  refine (get_any bd bl D1 12 w3 hd3).mono ?_; rintro e w4 ⟨a4, rfl, hb4, hi4⟩
  rw [HG12.out] at hi4 ⊢
  have hd4 := hd3.touch (Touch.of_below (S := fun _ => False) hb4) id id
  have hb4' := hb3'.trans (hb4.mono hb3'.size)
  have hi3' : IsB w4 a3 1 1 [97] := hi3.below hb4
  have c1 : (convert 23 9 (.slice a3 1 1)).run Try.prog w4 = .ok (.string (strB [97])) w4 := run_str_isB (P := Try.prog) Try.underlying23 Try.underlying5 Try.underlying9 hi3'
  have e97 : (strB [97]).toList = [97] := strB_toList _
  have hlt4 := hd4.lt
  clear hb3' hd3 hb4 hi3 hi3' hi4
  go_wp2_with fail
  refine (put_any bd bl D1 0 1 _ 1 1 [98] _ _ (hd4.touch (Touch.of_below (S := fun _ => False) ((Below.refl _ _).alloc (Nat.le_refl _) _)) id id) (frozen1 w4 98 _ _) (fun x off h _ => by cases h; omega) HFI.out (by decide) (by decide)).mono ?_; rintro e w5 ⟨rfl, ht5, hd5⟩
  rw [HO.out] at hd5 ⊢
  have hb5 : Below w.heap.size w w5 := (hb4'.alloc hb4'.size _).trans (ht5.below (by simp; exact Nat.le_trans hb4'.size (Nat.le_succ _)) (fun k hk e => by omega))
  have hd5' : IsDisk w5 bd bl D1 := hd5
  clear hb4' hd4 ht5 hd5 c1
  go_wp2_with fail
  refine (put_any bd bl D1 13 1 none 0 0 [] _ w5 hd5' (IsB.nil _) (fun x off h _ => by cases h) HFI.out (by decide) (by decide)).mono ?_; rintro e w6 ⟨rfl, ht6, hd6⟩
  rw [HA.out] at hd6 ⊢
  have hb6 : Below w.heap.size w w6 := hb5.trans (ht6.below hb5.size (fun k hk e => by omega))
  clear hb5 hd5' ht6 hd6
  go_wp2_with (first
    | (go_at_call 15; refine (room_any _).mono ?_; rintro e w' ⟨rfl, rfl⟩)
    | (go_at_call 9; refine (put_nil 0 1 none 0 0 _).mono ?_; rintro e w' ⟨rfl, rfl⟩)
    | fail)
  go_ret
  exact ⟨rfl, hb6⟩

end Go.Proofs.Ythenakdfdpdknaa
