/- disks: Write for every input, and Copy; conditions: those typed. -/
import Derived.Test.YtppmpgkkegldnaaDoorDisksW2
namespace Go.Proofs.YtppmpgkkegldnaaDoor
open Go.RowKit
set_option linter.unusedVariables false

/-- bounds that keep the counters from wrapping. -/
def Dsk.ok (D : Dsk) : Prop := 0 ≤ D.writes ∧ D.writes < 4611686018427387904 ∧ D.left ≤ 9223372036854775807

theorem write_any (bd bl : Nat) (D : Dsk) (n : Int) (a : Option Addr) (m c : Nat) (b : List UInt8) (w : World) (h : IsDisk w bd bl D) (hib : IsB w a m c b) (hok : D.ok) :
    Calls Tryd.prog 17 #[.pointer (some ⟨bd, 0, none⟩), .int .i64 n, .slice a m c] w fun e w' => e = .returned (.int .i64 (D.write n b).1) ∧ Touch (fun k => k = bd ∨ k = bl) w w' ∧ IsDisk w' bd bl (D.write n b).2 := by
  have hm := hib.1
  by_cases h1 : n < 0 ∨ (D.secs.length : Int) ≤ n ∨ 64 < b.length
  · have e : D.write n b = (1, D) := if_pos h1
    rw [e]
    refine (write_bad bd bl D n a m c w h (by omega)).mono ?_
    rintro e w' ⟨he, hb⟩
    exact ⟨he, Touch.of_below hb, h.touch (Touch.of_below (S := fun _ => False) hb) id id⟩
  by_cases h2 : D.blown = true ∨ D.left = 0
  · have e : D.write n b = (8, { D with blown := true }) := by unfold Dsk.write; rw [if_neg h1, if_pos h2]
    rw [e]
    refine (write_blown bd bl D n a m c w h (by omega) (by omega) (by omega) h2).mono ?_
    rintro e w' ⟨he, ht, hd⟩
    exact ⟨he, ht.weaken (fun k _ hk => .inl hk), hd⟩
  have e : D.write n b = (0, { D with secs := D.secs.set n.toNat (padS b), left := if 0 < D.left then D.left - 1 else D.left, writes := D.writes + 1 }) := by unfold Dsk.write; rw [if_neg h1, if_neg h2]
  have hB : D.blown = false := by
    cases hb : D.blown with
    | false => rfl
    | true => exact absurd (.inl hb) h2
  rw [e]
  obtain ⟨k, rfl⟩ := Int.eq_ofNat_of_zero_le (show 0 ≤ n by omega)
  by_cases h3 : 0 < D.left
  · rw [if_pos h3]
    exact write_ok_pos bd bl D k a m c b w h (by omega) (by omega) hib hB h3 hok.2.2 hok.1 hok.2.1
  · rw [if_neg h3]
    exact write_ok_neg bd bl D k a m c b w h (by omega) (by omega) hib hB (by omega) hok.1 hok.2.1

theorem Dsk.write_secs_length (D : Dsk) (n : Int) (b : List UInt8) : (D.write n b).2.secs.length = D.secs.length := by
  unfold Dsk.write
  split
  · rfl
  · split
    · rfl
    · simp

/-! ### Copy -/
def CopyPost (D : Dsk) (w : World) (e : Ending) (w' : World) : Prop :=
  ∃ cd cl, e = .returned (.tuple #[.pointer (some ⟨cd, 0, none⟩), .int .i64 0]) ∧ Below w.heap.size w w' ∧ w.heap.size ≤ cd ∧ w.heap.size ≤ cl ∧ IsDisk w' cd cl ⟨D.secs, -1, false, 0⟩
set_option maxHeartbeats 2000000 in
theorem copy_disk (bd bl : Nat) (D : Dsk) (w : World) (h : IsDisk w bd bl D) :
    Calls Tryd.prog 14 #[.pointer (some ⟨bd, 0, none⟩)] w (CopyPost D w) := by
  obtain ⟨f0, f1, f2, f3⟩ := h.field
  have hp := h.pos
  have hne : ((D.secs.length : Int) == 0) = false := by rw [beq_eq_false_iff_ne]; omega
  have hlt := h.lt
  go_enter Tryd.func14, Tryd.ntmps14
  go_wp2_with fail
  refine (new_good D.secs.length w h.pos h.most).mono ?_; rintro e w1 ⟨cd, cl, rfl, hb1, h1, h2, hc1⟩
  have hd1 := h.touch (Touch.of_below (S := fun _ => False) hb1) id id
  clear f0 f1 f2 f3
  obtain ⟨f0, f1, f2, f3⟩ := hd1.field
  obtain ⟨c0, c1, c2, c3⟩ := hc1.field
  rw [show (Dsk.mk (List.replicate D.secs.length zsec) (-1) false 0).secs.length = D.secs.length from List.length_replicate] at c0
  go_wp2_with fail
  have hfl : D.secs.flatten.length = D.secs.length * 64 := flat_length h.secs
  have hfz : (List.replicate D.secs.length zsec).flatten.length = D.secs.length * 64 := by
    have := flat_length hc1.secs
    rwa [show (Dsk.mk (List.replicate D.secs.length zsec) (-1) false 0).secs.length = D.secs.length from List.length_replicate] at this
  have hln : Hid ((bcells D.secs.flatten).length = Nat.min D.secs.length D.secs.length * 64) := Lib.hid (by rw [bcells_length, hfl]; show _ = min D.secs.length D.secs.length * 64; rw [Nat.min_self])
  have hat : At w1.drew (some ⟨bl, 0, none⟩) (bcells D.secs.flatten) := At.of_cells (w := w1.drew) fun j hj => by
    rw [Nat.zero_add]
    show w1.cell? _ = _
    rw [cell_of_block hd1.row, List.getElem?_toArray, List.getElem?_eq_getElem hj]
  have hfit : 0 + (bcells D.secs.flatten).length ≤ (bcells (List.replicate D.secs.length zsec).flatten).toArray.size := by rw [List.size_toArray, bcells_length, bcells_length, hfl, hfz]; omega
  have hcr : w1.drew.heap[cl]? = some (.cells (bcells (List.replicate D.secs.length zsec).flatten).toArray 65 (0, 0)) := hc1.row
  go_region_law (first
    | (refine step_copy_any rowSec rfl (.tmp 28) (.tmp 32) 57 (by rfl) (some ⟨cl, 0, none⟩) (some ⟨bl, 0, none⟩) D.secs.length D.secs.length D.secs.length D.secs.length (by simp [Act.eval]) (by simp [Act.eval]) cl 0 _ 65 hcr (bcells D.secs.flatten) hln.out (fun _ => rfl) hat hfit (bcells_one _) ?_; intro w2 hg2 ht2)
    | fail)
  all_goals
    have er : (List.take 0 (bcells (List.replicate D.secs.length zsec).flatten) ++ bcells D.secs.flatten ++ List.drop (0 + (bcells D.secs.flatten).length) (bcells (List.replicate D.secs.length zsec).flatten)).toArray = (bcells D.secs.flatten).toArray := by
      rw [List.take_zero, List.nil_append, List.drop_eq_nil_of_le (by rw [bcells_length, bcells_length, hfl, hfz]; omega), List.append_nil]
    rw [er] at hg2
    have hb2 : Below w.heap.size w w2 := hb1.trans (((Touch.refl _ w1).drew.trans ht2).below hb1.size (fun k hk => by omega))
    have hcd : IsDisk w2 cd cl ⟨D.secs, -1, false, 0⟩ := ⟨hc1.apart, h.pos, h.most, h.secs, by
      have := ht2.heap (k := cd) hc1.cells hc1.apart
      rw [show (Dsk.mk (List.replicate D.secs.length zsec) (-1) false 0).secs.length = D.secs.length from List.length_replicate] at this
      exact this, hg2⟩
    clear er hfit hcr hln hat hfl hfz hg2 ht2 f0 f1 f2 f3 c0 c1 c2 c3 hd1 hc1
    go_wp2_with fail
    go_ret2
    exact ⟨cd, cl, rfl, hb2, h1, h2, hcd⟩

end Go.Proofs.YtppmpgkkegldnaaDoor
