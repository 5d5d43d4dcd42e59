/- The package stores: the ways that read one thing each; conditions: those typed. Written by gen_clo.py. -/
import Derived.Test.YtggjhbpggddjmaaGreatGStC
import Derived.Test.YtggjhbpggddjmaaGreatGStN2
import Derived.Test.YtggjhbpggddjmaaGreatGSlotsLaw2
import Derived.Test.YtggjhbpggddjmaaGreatGSlotsR
import Derived.Deep.RegionHeld3
namespace Go.Proofs.YtggjhbpggddjmaaGreat
open Go.RowKit
variable {P : Nat → Prop}
set_option linter.unusedVariables false
set_option linter.unusedSimpArgs false

theorem IsRd.setCell {w : World} {br : Nat} {b : List UInt8} {bad : Bool} {bx off : Nat} {v : Value} {C : Array Value} {ty : TypeId} (h : IsRd P w br b bad) (hx : w.heap[bx]? = some (.cells C ty (0, 0))) (hC : ¬ P bx) (hne : bx ≠ br) : IsRd P (w.setCell ⟨bx, off, none⟩ v) br b bad := by
  obtain ⟨a, n, c, h1, h2, h3⟩ := h
  have ht : Touch (fun j => j = bx) w (w.setCell ⟨bx, off, none⟩ v) := Touch.setCell (Touch.refl (fun j => j = bx) w) ⟨bx, off, none⟩ _ (.inl rfl)
  exact ⟨a, n, c, ht.heap h1 (fun e => hne e.symm), h2.touch ht (fun b off ha hl e => hC (e ▸ h3 b off ha hl)), h3⟩
theorem RdTo.setCell {w : World} {br : Nat} {b : List UInt8} {o : Option (List UInt8)} {bx off : Nat} {v : Value} {C : Array Value} {ty : TypeId} (h : RdTo P w br b o) (hx : w.heap[bx]? = some (.cells C ty (0, 0))) (hC : ¬ P bx) (hne : bx ≠ br) : RdTo P (w.setCell ⟨bx, off, none⟩ v) br b o := by
  cases o with
  | none => exact IsRd.setCell h hx hC hne
  | some r => exact IsRd.setCell h hx hC hne
theorem clo_end {W w1 : World} {br bx off : Nat} {b : List UInt8} {o : Option (List UInt8)} {C : Array Value} {ty : TypeId} (v : Value) (ht : Touch (fun j => j = br) W w1) (hx : w1.heap[bx]? = some (.cells C ty (0, 0))) (hC : ¬ P bx) (hr : RdTo P w1 br b o) (hne : bx ≠ br) :
    Touch (fun j => j = br ∨ j = bx) W (w1.setCell ⟨bx, off, none⟩ v) ∧ (w1.setCell ⟨bx, off, none⟩ v).heap[bx]? = some (.cells (C.setIfInBounds off v) ty (0, 0)) ∧ RdTo P (w1.setCell ⟨bx, off, none⟩ v) br b o :=
  ⟨(ht.weaken (fun _ _ h => .inl h)).setCell _ _ (.inl (.inr rfl)), heap_setCell_same _ bx off _ _ _ hx, hr.setCell hx hC hne⟩
theorem touch_set (w : World) (bx off : Nat) (v : Value) : Touch (fun j => j = bx) w (w.setCell ⟨bx, off, none⟩ v) := Touch.setCell (Touch.refl (fun j => j = bx) w) ⟨bx, off, none⟩ _ (.inl rfl)
theorem decN_lt (k : Nat) (b : List UInt8) : (((decN k b).map (·.1)).getD 0) < 256 ^ k := by
  unfold decN
  split
  · exact Nat.pow_pos (by decide)
  · have := numOf_lt (b.take k)
    have h : (b.take k).length = k := by rw [List.length_take]; omega
    rw [h] at this
    exact this


set_option maxHeartbeats 1000000 in
theorem clo_phase1 (b4 br bx : Nat) (T4 : TypeId) (C : Array Value) (ty : TypeId) (b : List UInt8) (W : World) (h4 : W.heap[b4]? = some (.cells #[.pointer (some ⟨br, 0, none⟩)] T4 (0, 0))) (hx : W.heap[bx]? = some (.cells C ty (0, 0))) (hC : ¬ P bx) (hoff : 0 < C.size) (hr : IsRd P W br b false) (hne : bx ≠ br) :
    Calls Tryz.prog 61 #[.pointer (some ⟨b4, 0, none⟩), .pointer (some ⟨bx, 0, none⟩)] W fun e W' => e = .returned (.tuple #[]) ∧ ∃ v, Touch (fun j => j = br ∨ j = bx) W W' ∧ W'.heap[bx]? = some (.cells (C.setIfInBounds 0 v) ty (0, 0)) ∧ RdTo P W' br b ((decN 1 b).map (·.2)) ∧ v = .int .u8 ((((decN 1 b).map (·.1)).getD 0 : Nat) : Int) := by
  have f4 : W.cell? ⟨b4, 0, none⟩ = some (.pointer (some ⟨br, 0, none⟩)) := by rw [cell_of_block h4]; rfl
  obtain ⟨old, hold⟩ : ∃ old, C[0]? = some old := ⟨_, Array.getElem?_eq_getElem hoff⟩
  have hbx := lt_of_heap hx
  have HX := Lib.hid hx
  have HC := Lib.hid hC
  have HR := Lib.hid hr
  have HN := Lib.hid hne
  clear h4 hx hC hr hne
  go_enter Tryz.func61, Tryz.ntmps61
  go_wp2_with fail
  refine (rnum_ok br 1 b W HR.out (by decide) (by decide)).mono ?_; rintro e w1 ⟨rfl, ht1, hr1⟩
  have hq := decN_lt 1 b
  have hx1 := ht1.heap HX.out HN.out
  have g1 : w1.cell? ⟨bx, 0, none⟩ = some old := by rw [cell_of_block hx1]; exact hold
  have g2 : w1.frozen? ⟨bx, 0, none⟩ = false := blk_free hx1
  have FIN := Lib.hid (clo_end (off := 0) (.int .u8 ((((decN 1 b).map (·.1)).getD 0 : Nat) : Int)) ht1 hx1 HC.out hr1 HN.out)
  clear ht1 hr1 hx1 hold
  generalize hqe : ((decN 1 b).map (·.1)).getD 0 = q at hq FIN ⊢
  have HQ := Lib.hid hqe
  have hq' : q < 256 := hq
  have hw : IntKind.u8.wrap (q : Int) = (q : Int) := by rw [IntKind.wrap_u8]; omega
  have hw2 : (q : Int) % 256 = (q : Int) := by omega
  clear hq hqe
  go_wp2_with fail
  go_end0
  exact ⟨rfl, _, FIN.out.1, FIN.out.2.1, FIN.out.2.2, by rw [HQ.out]⟩

set_option maxHeartbeats 1000000 in
theorem clo_phase2 (b4 br bx : Nat) (T4 : TypeId) (C : Array Value) (ty : TypeId) (b : List UInt8) (W : World) (h4 : W.heap[b4]? = some (.cells #[.pointer (some ⟨br, 0, none⟩)] T4 (0, 0))) (hx : W.heap[bx]? = some (.cells C ty (0, 0))) (hC : ¬ P bx) (hoff : 0 < C.size) (hr : IsRd P W br b false) (hne : bx ≠ br) :
    Calls Tryz.prog 63 #[.pointer (some ⟨b4, 0, none⟩), .pointer (some ⟨bx, 0, none⟩)] W fun e W' => e = .returned (.tuple #[]) ∧ ∃ v, Touch (fun j => j = br ∨ j = bx) W W' ∧ W'.heap[bx]? = some (.cells (C.setIfInBounds 0 v) ty (0, 0)) ∧ RdTo P W' br b ((decL b).map (·.2)) ∧ ListV W.heap.size W' v (decL b) := by
  have f4 : W.cell? ⟨b4, 0, none⟩ = some (.pointer (some ⟨br, 0, none⟩)) := by rw [cell_of_block h4]; rfl
  obtain ⟨old, hold⟩ : ∃ old, C[0]? = some old := ⟨_, Array.getElem?_eq_getElem hoff⟩
  have hbx := lt_of_heap hx
  have HX := Lib.hid hx
  have HC := Lib.hid hC
  have HR := Lib.hid hr
  have HN := Lib.hid hne
  clear h4 hx hC hr hne
  go_enter Tryz.func63, Tryz.ntmps63
  go_wp2_with fail
  refine (rlist_ok br b W HR.out).mono ?_; rintro e w1 ⟨v, rfl, ht1, hr1, hv1⟩
  have hx1 := ht1.heap HX.out HN.out
  have g1 : w1.cell? ⟨bx, 0, none⟩ = some old := by rw [cell_of_block hx1]; exact hold
  have g2 : w1.frozen? ⟨bx, 0, none⟩ = false := blk_free hx1
  have FIN := Lib.hid (clo_end (off := 0) v ht1 hx1 HC.out hr1 HN.out)
  have HV := Lib.hid (hv1.touch (touch_set w1 bx 0 v) (fun k hk e => by omega))
  obtain ⟨va, vn, vc, rfl⟩ := hv1.one
  clear ht1 hr1 hx1 hold hv1
  go_wp2_with fail
  go_end0
  exact ⟨rfl, _, FIN.out.1, FIN.out.2.1, FIN.out.2.2, HV.out⟩

set_option maxHeartbeats 1000000 in
theorem clo_record1 (b4 br bx : Nat) (T4 : TypeId) (C : Array Value) (ty : TypeId) (b : List UInt8) (W : World) (h4 : W.heap[b4]? = some (.cells #[.pointer (some ⟨br, 0, none⟩)] T4 (0, 0))) (hx : W.heap[bx]? = some (.cells C ty (0, 0))) (hC : ¬ P bx) (hoff : 0 < C.size) (hr : IsRd P W br b false) (hne : bx ≠ br) :
    Calls Tryz.prog 67 #[.pointer (some ⟨b4, 0, none⟩), .pointer (some ⟨bx, 0, none⟩)] W fun e W' => e = .returned (.tuple #[]) ∧ ∃ v, Touch (fun j => j = br ∨ j = bx) W W' ∧ W'.heap[bx]? = some (.cells (C.setIfInBounds 0 v) ty (0, 0)) ∧ RdTo P W' br b ((decN 4 b).map (·.2)) ∧ v = .int .u32 ((((decN 4 b).map (·.1)).getD 0 : Nat) : Int) := by
  have f4 : W.cell? ⟨b4, 0, none⟩ = some (.pointer (some ⟨br, 0, none⟩)) := by rw [cell_of_block h4]; rfl
  obtain ⟨old, hold⟩ : ∃ old, C[0]? = some old := ⟨_, Array.getElem?_eq_getElem hoff⟩
  have hbx := lt_of_heap hx
  have HX := Lib.hid hx
  have HC := Lib.hid hC
  have HR := Lib.hid hr
  have HN := Lib.hid hne
  clear h4 hx hC hr hne
  go_enter Tryz.func67, Tryz.ntmps67
  go_wp2_with fail
  refine (rnum_ok br 4 b W HR.out (by decide) (by decide)).mono ?_; rintro e w1 ⟨rfl, ht1, hr1⟩
  have hq := decN_lt 4 b
  have hx1 := ht1.heap HX.out HN.out
  have g1 : w1.cell? ⟨bx, 0, none⟩ = some old := by rw [cell_of_block hx1]; exact hold
  have g2 : w1.frozen? ⟨bx, 0, none⟩ = false := blk_free hx1
  have FIN := Lib.hid (clo_end (off := 0) (.int .u32 ((((decN 4 b).map (·.1)).getD 0 : Nat) : Int)) ht1 hx1 HC.out hr1 HN.out)
  clear ht1 hr1 hx1 hold
  generalize hqe : ((decN 4 b).map (·.1)).getD 0 = q at hq FIN ⊢
  have HQ := Lib.hid hqe
  have hq' : q < 4294967296 := hq
  have hw : IntKind.u32.wrap (q : Int) = (q : Int) := by rw [IntKind.wrap_u32]; omega
  have hw2 : (q : Int) % 4294967296 = (q : Int) := by omega
  clear hq hqe
  go_wp2_with fail
  go_end0
  exact ⟨rfl, _, FIN.out.1, FIN.out.2.1, FIN.out.2.2, by rw [HQ.out]⟩

set_option maxHeartbeats 1000000 in
theorem clo_record2 (b4 br bx : Nat) (T4 : TypeId) (C : Array Value) (ty : TypeId) (b : List UInt8) (W : World) (h4 : W.heap[b4]? = some (.cells #[.pointer (some ⟨br, 0, none⟩)] T4 (0, 0))) (hx : W.heap[bx]? = some (.cells C ty (0, 0))) (hC : ¬ P bx) (hoff : 0 < C.size) (hr : IsRd P W br b false) (hne : bx ≠ br) :
    Calls Tryz.prog 68 #[.pointer (some ⟨b4, 0, none⟩), .pointer (some ⟨bx, 0, none⟩)] W fun e W' => e = .returned (.tuple #[]) ∧ ∃ v, Touch (fun j => j = br ∨ j = bx) W W' ∧ W'.heap[bx]? = some (.cells (C.setIfInBounds 0 v) ty (0, 0)) ∧ RdTo P W' br b ((decN 1 b).map (·.2)) ∧ v = .int .u64 ((((decN 1 b).map (·.1)).getD 0 : Nat) : Int) := by
  have f4 : W.cell? ⟨b4, 0, none⟩ = some (.pointer (some ⟨br, 0, none⟩)) := by rw [cell_of_block h4]; rfl
  obtain ⟨old, hold⟩ : ∃ old, C[0]? = some old := ⟨_, Array.getElem?_eq_getElem hoff⟩
  have hbx := lt_of_heap hx
  have HX := Lib.hid hx
  have HC := Lib.hid hC
  have HR := Lib.hid hr
  have HN := Lib.hid hne
  clear h4 hx hC hr hne
  go_enter Tryz.func68, Tryz.ntmps68
  go_wp2_with fail
  refine (rnum_ok br 1 b W HR.out (by decide) (by decide)).mono ?_; rintro e w1 ⟨rfl, ht1, hr1⟩
  have hq := decN_lt 1 b
  have hx1 := ht1.heap HX.out HN.out
  have g1 : w1.cell? ⟨bx, 0, none⟩ = some old := by rw [cell_of_block hx1]; exact hold
  have g2 : w1.frozen? ⟨bx, 0, none⟩ = false := blk_free hx1
  have FIN := Lib.hid (clo_end (off := 0) (.int .u64 ((((decN 1 b).map (·.1)).getD 0 : Nat) : Int)) ht1 hx1 HC.out hr1 HN.out)
  clear ht1 hr1 hx1 hold
  generalize hqe : ((decN 1 b).map (·.1)).getD 0 = q at hq FIN ⊢
  have HQ := Lib.hid hqe
  have hq' : q < 256 := hq
  clear hq hqe
  go_wp2_with fail
  go_end0
  exact ⟨rfl, _, FIN.out.1, FIN.out.2.1, FIN.out.2.2, by rw [HQ.out]⟩

set_option maxHeartbeats 1000000 in
theorem clo_record3 (b4 br bx : Nat) (T4 : TypeId) (C : Array Value) (ty : TypeId) (b : List UInt8) (W : World) (h4 : W.heap[b4]? = some (.cells #[.pointer (some ⟨br, 0, none⟩)] T4 (0, 0))) (hx : W.heap[bx]? = some (.cells C ty (0, 0))) (hC : ¬ P bx) (hoff : 2 < C.size) (hr : IsRd P W br b false) (hne : bx ≠ br) :
    Calls Tryz.prog 69 #[.pointer (some ⟨b4, 0, none⟩), .pointer (some ⟨bx, 0, none⟩)] W fun e W' => e = .returned (.tuple #[]) ∧ ∃ v, Touch (fun j => j = br ∨ j = bx) W W' ∧ W'.heap[bx]? = some (.cells (C.setIfInBounds 2 v) ty (0, 0)) ∧ RdTo P W' br b ((decL b).map (·.2)) ∧ ListV W.heap.size W' v (decL b) := by
  have f4 : W.cell? ⟨b4, 0, none⟩ = some (.pointer (some ⟨br, 0, none⟩)) := by rw [cell_of_block h4]; rfl
  obtain ⟨old, hold⟩ : ∃ old, C[2]? = some old := ⟨_, Array.getElem?_eq_getElem hoff⟩
  have hbx := lt_of_heap hx
  have HX := Lib.hid hx
  have HC := Lib.hid hC
  have HR := Lib.hid hr
  have HN := Lib.hid hne
  clear h4 hx hC hr hne
  go_enter Tryz.func69, Tryz.ntmps69
  go_wp2_with fail
  refine (rlist_ok br b W HR.out).mono ?_; rintro e w1 ⟨v, rfl, ht1, hr1, hv1⟩
  have hx1 := ht1.heap HX.out HN.out
  have g1 : w1.cell? ⟨bx, 2, none⟩ = some old := by rw [cell_of_block hx1]; exact hold
  have g2 : w1.frozen? ⟨bx, 2, none⟩ = false := blk_free hx1
  have FIN := Lib.hid (clo_end (off := 2) v ht1 hx1 HC.out hr1 HN.out)
  have HV := Lib.hid (hv1.touch (touch_set w1 bx 2 v) (fun k hk e => by omega))
  obtain ⟨va, vn, vc, rfl⟩ := hv1.one
  clear ht1 hr1 hx1 hold hv1
  go_wp2_with fail
  go_end0
  exact ⟨rfl, _, FIN.out.1, FIN.out.2.1, FIN.out.2.2, HV.out⟩

set_option maxHeartbeats 1000000 in
theorem clo_get1 (b4 br bx : Nat) (T4 : TypeId) (C : Array Value) (ty : TypeId) (b : List UInt8) (W : World) (h4 : W.heap[b4]? = some (.cells #[.pointer (some ⟨br, 0, none⟩)] T4 (0, 0))) (hx : W.heap[bx]? = some (.cells C ty (0, 0))) (hC : ¬ P bx) (hoff : 0 < C.size) (hr : IsRd P W br b false) (hne : bx ≠ br) :
    Calls Tryz.prog 73 #[.pointer (some ⟨b4, 0, none⟩), .pointer (some ⟨bx, 0, none⟩)] W fun e W' => e = .returned (.tuple #[]) ∧ ∃ v, Touch (fun j => j = br ∨ j = bx) W W' ∧ W'.heap[bx]? = some (.cells (C.setIfInBounds 0 v) ty (0, 0)) ∧ RdTo P W' br b ((decL b).map (·.2)) ∧ ListV W.heap.size W' v (decL b) := by
  have f4 : W.cell? ⟨b4, 0, none⟩ = some (.pointer (some ⟨br, 0, none⟩)) := by rw [cell_of_block h4]; rfl
  obtain ⟨old, hold⟩ : ∃ old, C[0]? = some old := ⟨_, Array.getElem?_eq_getElem hoff⟩
  have hbx := lt_of_heap hx
  have HX := Lib.hid hx
  have HC := Lib.hid hC
  have HR := Lib.hid hr
  have HN := Lib.hid hne
  clear h4 hx hC hr hne
  go_enter Tryz.func73, Tryz.ntmps73
  go_wp2_with fail
  refine (rlist_ok br b W HR.out).mono ?_; rintro e w1 ⟨v, rfl, ht1, hr1, hv1⟩
  have hx1 := ht1.heap HX.out HN.out
  have g1 : w1.cell? ⟨bx, 0, none⟩ = some old := by rw [cell_of_block hx1]; exact hold
  have g2 : w1.frozen? ⟨bx, 0, none⟩ = false := blk_free hx1
  have FIN := Lib.hid (clo_end (off := 0) v ht1 hx1 HC.out hr1 HN.out)
  have HV := Lib.hid (hv1.touch (touch_set w1 bx 0 v) (fun k hk e => by omega))
  obtain ⟨va, vn, vc, rfl⟩ := hv1.one
  clear ht1 hr1 hx1 hold hv1
  go_wp2_with fail
  go_end0
  exact ⟨rfl, _, FIN.out.1, FIN.out.2.1, FIN.out.2.2, HV.out⟩

set_option maxHeartbeats 1000000 in
theorem clo_get2 (b4 br bx : Nat) (T4 : TypeId) (C : Array Value) (ty : TypeId) (b : List UInt8) (W : World) (h4 : W.heap[b4]? = some (.cells #[.pointer (some ⟨br, 0, none⟩)] T4 (0, 0))) (hx : W.heap[bx]? = some (.cells C ty (0, 0))) (hC : ¬ P bx) (hoff : 0 < C.size) (hr : IsRd P W br b false) (hne : bx ≠ br) :
    Calls Tryz.prog 74 #[.pointer (some ⟨b4, 0, none⟩), .pointer (some ⟨bx, 0, none⟩)] W fun e W' => e = .returned (.tuple #[]) ∧ ∃ v, Touch (fun j => j = br ∨ j = bx) W W' ∧ W'.heap[bx]? = some (.cells (C.setIfInBounds 0 v) ty (0, 0)) ∧ RdTo P W' br b ((decN 1 b).map (·.2)) ∧ v = .int .i64 ((((decN 1 b).map (·.1)).getD 0 : Nat) : Int) := by
  have f4 : W.cell? ⟨b4, 0, none⟩ = some (.pointer (some ⟨br, 0, none⟩)) := by rw [cell_of_block h4]; rfl
  obtain ⟨old, hold⟩ : ∃ old, C[0]? = some old := ⟨_, Array.getElem?_eq_getElem hoff⟩
  have hbx := lt_of_heap hx
  have HX := Lib.hid hx
  have HC := Lib.hid hC
  have HR := Lib.hid hr
  have HN := Lib.hid hne
  clear h4 hx hC hr hne
  go_enter Tryz.func74, Tryz.ntmps74
  go_wp2_with fail
  refine (rnum_ok br 1 b W HR.out (by decide) (by decide)).mono ?_; rintro e w1 ⟨rfl, ht1, hr1⟩
  have hq := decN_lt 1 b
  have hx1 := ht1.heap HX.out HN.out
  have g1 : w1.cell? ⟨bx, 0, none⟩ = some old := by rw [cell_of_block hx1]; exact hold
  have g2 : w1.frozen? ⟨bx, 0, none⟩ = false := blk_free hx1
  have FIN := Lib.hid (clo_end (off := 0) (.int .i64 ((((decN 1 b).map (·.1)).getD 0 : Nat) : Int)) ht1 hx1 HC.out hr1 HN.out)
  clear ht1 hr1 hx1 hold
  generalize hqe : ((decN 1 b).map (·.1)).getD 0 = q at hq FIN ⊢
  have HQ := Lib.hid hqe
  have hq' : q < 256 := hq
  clear hq hqe
  go_wp2_with fail
  go_end0
  exact ⟨rfl, _, FIN.out.1, FIN.out.2.1, FIN.out.2.2, by rw [HQ.out]⟩

set_option maxHeartbeats 1000000 in
theorem clo_get4 (b4 br bx : Nat) (T4 : TypeId) (C : Array Value) (ty : TypeId) (b : List UInt8) (W : World) (h4 : W.heap[b4]? = some (.cells #[.pointer (some ⟨br, 0, none⟩)] T4 (0, 0))) (hx : W.heap[bx]? = some (.cells C ty (0, 0))) (hC : ¬ P bx) (hoff : 2 < C.size) (hr : IsRd P W br b false) (hne : bx ≠ br) :
    Calls Tryz.prog 77 #[.pointer (some ⟨b4, 0, none⟩), .pointer (some ⟨bx, 0, none⟩)] W fun e W' => e = .returned (.tuple #[]) ∧ ∃ v, Touch (fun j => j = br ∨ j = bx) W W' ∧ W'.heap[bx]? = some (.cells (C.setIfInBounds 2 v) ty (0, 0)) ∧ RdTo P W' br b ((decB b).map (·.2)) ∧ BytesV W.heap.size W' v (decB b) := by
  have f4 : W.cell? ⟨b4, 0, none⟩ = some (.pointer (some ⟨br, 0, none⟩)) := by rw [cell_of_block h4]; rfl
  obtain ⟨old, hold⟩ : ∃ old, C[2]? = some old := ⟨_, Array.getElem?_eq_getElem hoff⟩
  have hbx := lt_of_heap hx
  have HX := Lib.hid hx
  have HC := Lib.hid hC
  have HR := Lib.hid hr
  have HN := Lib.hid hne
  clear h4 hx hC hr hne
  go_enter Tryz.func77, Tryz.ntmps77
  go_wp2_with fail
  refine (rbytes_ok br b W HR.out).mono ?_; rintro e w1 ⟨v, rfl, ht1, hr1, hv1⟩
  have hx1 := ht1.heap HX.out HN.out
  have g1 : w1.cell? ⟨bx, 2, none⟩ = some old := by rw [cell_of_block hx1]; exact hold
  have g2 : w1.frozen? ⟨bx, 2, none⟩ = false := blk_free hx1
  have FIN := Lib.hid (clo_end (off := 2) v ht1 hx1 HC.out hr1 HN.out)
  have HV := Lib.hid (hv1.touch (touch_set w1 bx 2 v) (fun k hk e => by omega))
  obtain ⟨va, vn, vc, rfl⟩ := hv1.one
  clear ht1 hr1 hx1 hold hv1
  go_wp2_with fail
  go_end0
  exact ⟨rfl, _, FIN.out.1, FIN.out.2.1, FIN.out.2.2, HV.out⟩

set_option maxHeartbeats 1000000 in
theorem clo_get5 (b4 br bx : Nat) (T4 : TypeId) (C : Array Value) (ty : TypeId) (b : List UInt8) (W : World) (h4 : W.heap[b4]? = some (.cells #[.pointer (some ⟨br, 0, none⟩)] T4 (0, 0))) (hx : W.heap[bx]? = some (.cells C ty (0, 0))) (hC : ¬ P bx) (hoff : 3 < C.size) (hr : IsRd P W br b false) (hne : bx ≠ br) :
    Calls Tryz.prog 78 #[.pointer (some ⟨b4, 0, none⟩), .pointer (some ⟨bx, 0, none⟩)] W fun e W' => e = .returned (.tuple #[]) ∧ ∃ v, Touch (fun j => j = br ∨ j = bx) W W' ∧ W'.heap[bx]? = some (.cells (C.setIfInBounds 3 v) ty (0, 0)) ∧ RdTo P W' br b ((decB b).map (·.2)) ∧ BytesV W.heap.size W' v (decB b) := by
  have f4 : W.cell? ⟨b4, 0, none⟩ = some (.pointer (some ⟨br, 0, none⟩)) := by rw [cell_of_block h4]; rfl
  obtain ⟨old, hold⟩ : ∃ old, C[3]? = some old := ⟨_, Array.getElem?_eq_getElem hoff⟩
  have hbx := lt_of_heap hx
  have HX := Lib.hid hx
  have HC := Lib.hid hC
  have HR := Lib.hid hr
  have HN := Lib.hid hne
  clear h4 hx hC hr hne
  go_enter Tryz.func78, Tryz.ntmps78
  go_wp2_with fail
  refine (rbytes_ok br b W HR.out).mono ?_; rintro e w1 ⟨v, rfl, ht1, hr1, hv1⟩
  have hx1 := ht1.heap HX.out HN.out
  have g1 : w1.cell? ⟨bx, 3, none⟩ = some old := by rw [cell_of_block hx1]; exact hold
  have g2 : w1.frozen? ⟨bx, 3, none⟩ = false := blk_free hx1
  have FIN := Lib.hid (clo_end (off := 3) v ht1 hx1 HC.out hr1 HN.out)
  have HV := Lib.hid (hv1.touch (touch_set w1 bx 3 v) (fun k hk e => by omega))
  obtain ⟨va, vn, vc, rfl⟩ := hv1.one
  clear ht1 hr1 hx1 hold hv1
  go_wp2_with fail
  go_end0
  exact ⟨rfl, _, FIN.out.1, FIN.out.2.1, FIN.out.2.2, HV.out⟩

set_option maxHeartbeats 1000000 in
theorem clo_get6 (b4 br bx : Nat) (T4 : TypeId) (C : Array Value) (ty : TypeId) (b : List UInt8) (W : World) (h4 : W.heap[b4]? = some (.cells #[.pointer (some ⟨br, 0, none⟩)] T4 (0, 0))) (hx : W.heap[bx]? = some (.cells C ty (0, 0))) (hC : ¬ P bx) (hoff : 4 < C.size) (hr : IsRd P W br b false) (hne : bx ≠ br) :
    Calls Tryz.prog 79 #[.pointer (some ⟨b4, 0, none⟩), .pointer (some ⟨bx, 0, none⟩)] W fun e W' => e = .returned (.tuple #[]) ∧ ∃ v, Touch (fun j => j = br ∨ j = bx) W W' ∧ W'.heap[bx]? = some (.cells (C.setIfInBounds 4 v) ty (0, 0)) ∧ RdTo P W' br b ((decN 8 b).map (·.2)) ∧ v = .int .u64 ((((decN 8 b).map (·.1)).getD 0 : Nat) : Int) := by
  have f4 : W.cell? ⟨b4, 0, none⟩ = some (.pointer (some ⟨br, 0, none⟩)) := by rw [cell_of_block h4]; rfl
  obtain ⟨old, hold⟩ : ∃ old, C[4]? = some old := ⟨_, Array.getElem?_eq_getElem hoff⟩
  have hbx := lt_of_heap hx
  have HX := Lib.hid hx
  have HC := Lib.hid hC
  have HR := Lib.hid hr
  have HN := Lib.hid hne
  clear h4 hx hC hr hne
  go_enter Tryz.func79, Tryz.ntmps79
  go_wp2_with fail
  refine (rnum_ok br 8 b W HR.out (by decide) (by decide)).mono ?_; rintro e w1 ⟨rfl, ht1, hr1⟩
  have hq := decN_lt 8 b
  have hx1 := ht1.heap HX.out HN.out
  have g1 : w1.cell? ⟨bx, 4, none⟩ = some old := by rw [cell_of_block hx1]; exact hold
  have g2 : w1.frozen? ⟨bx, 4, none⟩ = false := blk_free hx1
  have FIN := Lib.hid (clo_end (off := 4) (.int .u64 ((((decN 8 b).map (·.1)).getD 0 : Nat) : Int)) ht1 hx1 HC.out hr1 HN.out)
  clear ht1 hr1 hx1 hold
  generalize hqe : ((decN 8 b).map (·.1)).getD 0 = q at hq FIN ⊢
  have HQ := Lib.hid hqe
  have hq' : q < 18446744073709551616 := hq
  clear hq hqe
  go_wp2_with fail
  go_end0
  exact ⟨rfl, _, FIN.out.1, FIN.out.2.1, FIN.out.2.2, by rw [HQ.out]⟩

end Go.Proofs.YtggjhbpggddjmaaGreat

/- The package stores: a store in memory; small contracts; conditions: those typed. -/
namespace Go.Proofs.YtggjhbpggddjmaaGreat
open Go.RowKit
set_option linter.unusedVariables false
set_option linter.unusedSimpArgs false

theorem stroom_any (w : World) : Calls Tryz.prog 59 #[] w fun e w' => e = .returned (.int .i64 12) ∧ w = w' := by
  go_enter Tryz.func59, Tryz.ntmps59
  go_wp2
  go_ret
  exact ⟨rfl, rfl⟩
theorem stconfig_any (w : World) : Calls Tryz.prog 44 #[] w fun e w' => e = .returned (.int .i64 ((0 : Nat) : Int)) ∧ w = w' := by
  go_enter Tryz.func44, Tryz.ntmps44
  go_wp2
  go_ret
  exact ⟨rfl, rfl⟩
theorem stphase_any (w : World) : Calls Tryz.prog 34 #[] w fun e w' => e = .returned (.int .i64 ((12 : Nat) : Int)) ∧ w = w' := by
  go_enter Tryz.func34, Tryz.ntmps34
  go_wp2_with fail
  refine (stroom_any w).mono ?_; rintro e w1 ⟨rfl, rfl⟩
  go_wp2_with fail
  go_ret
  exact ⟨rfl, rfl⟩
theorem strecord_any (k : Nat) (hk : k ≤ 100000) (w : World) : Calls Tryz.prog 39 #[.int .i64 k] w fun e w' => e = .returned (.int .i64 ((12 * (2 + k) : Nat) : Int)) ∧ w = w' := by
  have he : Hid ((2 + (k : Int)) * 12 = ((12 * (2 + k) : Nat) : Int)) := Lib.hid (by push_cast; omega)
  go_enter Tryz.func39, Tryz.ntmps39
  go_wp2_with fail
  refine (stroom_any w).mono ?_; rintro e w1 ⟨rfl, rfl⟩
  go_wp2_with fail
  go_ret
  exact ⟨by rw [← he.out]; rfl, rfl⟩

theorem get_i (bd bl : Nat) (D : Dsk) (p : Nat) (pI : Int) (w : World) (hp : pI = (p : Int)) (h : IsDisk w bd bl D) :
    Calls Tryz.prog 43 #[.pointer (some ⟨bd, 0, none⟩), .int .i64 pI] w fun e w' => ∃ a, e = .returned (.tuple #[.int .u32 (D.get (p : Int)).1, .slice a (D.get (p : Int)).2.1.length (D.get (p : Int)).2.1.length, .int .i64 (D.get (p : Int)).2.2]) ∧ Below w.heap.size w w' ∧ IsB w' a (D.get (p : Int)).2.1.length (D.get (p : Int)).2.1.length (D.get (p : Int)).2.1 ∧ ∀ k off, a = some ⟨k, off, none⟩ → w.heap.size ≤ k := by
  subst hp
  refine (get_own bd bl D (p : Int) w h).mono ?_
  rintro e w' ⟨a, h1, h2, h3, c, h4⟩
  exact ⟨a, h1, h2, h3, fun k off ha => by subst ha; exact owns_base h4 k rfl⟩

/-- A store in memory, on a disk. -/
structure IsStore (w : World) (bs bd bl : Nat) (x : StA) (c : StC) (D : Dsk) : Prop where
  cells : w.heap[bs]? = some (.cells (x.cells c.t ++ [Value.pointer (some ⟨bd, 0, none⟩)]).toArray 77 (0, 0))
  disk : IsDisk w bd bl D
  cfg : IsCf w (fun k => ¬ (k = bd ∨ k = bl)) x c
  ne : ¬ (bs = bd ∨ bs = bl)
theorem IsStore.below {w w' : World} {bs bd bl : Nat} {x : StA} {c : StC} {D : Dsk} (h : IsStore w bs bd bl x c D) (hb : Below w.heap.size w w') : IsStore w' bs bd bl x c D :=
  ⟨below_heap hb h.cells (lt_of_heap h.cells), h.disk.touch (Touch.of_below (S := fun _ => False) hb) id id, h.cfg.below hb, h.ne⟩
theorem IsStore.put {w w' : World} {bs bd bl : Nat} {x : StA} {c : StC} {D D' : Dsk} (h : IsStore w bs bd bl x c D) (ht : Touch (fun k => k = bd ∨ k = bl) w w') (hd : IsDisk w' bd bl D') : IsStore w' bs bd bl x c D' :=
  ⟨ht.heap h.cells h.ne, hd, h.cfg.touch ht (fun k hk => hk), h.ne⟩
theorem IsStore.f {w : World} {bs bd bl : Nat} {x : StA} {c : StC} {D : Dsk} (h : IsStore w bs bd bl x c D) :
    w.cell? ⟨bs, 0, none⟩ = some (.slice x.ra x.rn x.rc) ∧ w.cell? ⟨bs, 1, none⟩ = some (.slice x.sa x.sn x.sc) ∧ w.cell? ⟨bs, 5, none⟩ = some (.pointer (some ⟨bd, 0, none⟩)) := by
  refine ⟨?_, ?_, ?_⟩ <;> rw [cell_of_block h.cells] <;> rfl
theorem IsStore.rn {w : World} {bs bd bl : Nat} {x : StA} {c : StC} {D : Dsk} (h : IsStore w bs bd bl x c D) : x.rn = c.r.length ∧ x.sn = c.s.length := ⟨h.cfg.r.1.1, h.cfg.s.1⟩

set_option maxHeartbeats 400000 in
theorem there_any (bs bd bl : Nat) (x : StA) (c : StC) (D : Dsk) (w : World) (h : IsStore w bs bd bl x c D) :
    Calls Tryz.prog 31 #[.pointer (some ⟨bs, 0, none⟩)] w fun e w' => e = .returned (.bool true) ∧ w = w' := by
  obtain ⟨_, _, f5⟩ := h.f
  clear h
  go_enter Tryz.func31, Tryz.ntmps31
  go_wp2
  go_ret
  exact ⟨rfl, rfl⟩
theorem there_nil (w : World) : Calls Tryz.prog 31 #[.pointer none] w fun e w' => e = .returned (.bool false) ∧ w = w' := by
  go_enter Tryz.func31, Tryz.ntmps31
  go_wp2
  go_ret
  exact ⟨rfl, rfl⟩
theorem there_zero (b : Nat) (w : World) (h : w.cell? ⟨b, 5, none⟩ = some (.pointer none)) : Calls Tryz.prog 31 #[.pointer (some ⟨b, 0, none⟩)] w fun e w' => e = .returned (.bool false) ∧ w = w' := by
  go_enter Tryz.func31, Tryz.ntmps31
  go_wp2
  go_ret
  exact ⟨rfl, rfl⟩

set_option maxHeartbeats 1000000 in
/-- keeps: bytes, with the next number. -/
theorem keeps_any (bs bd bl : Nat) (x : StA) (c : StC) (D : Dsk) (p : Nat) (pI : Int) (a : Option Addr) (n cc : Nat) (b : List UInt8) (k : Int) (w : World) (h : IsStore w bs bd bl x c D) (hp : pI = (p : Int)) (hb : IsB w a n cc b) (hab : ∀ x off, a = some ⟨x, off, none⟩ → b ≠ [] → ¬ (x = bd ∨ x = bl)) (hk : D.fine k) (hk2 : k ≤ 1000000000000000) (hlt : (D.get (p : Int)).1 < 4294967296) :
    Calls Tryz.prog 33 #[.pointer (some ⟨bs, 0, none⟩), .int .i64 pI, .slice a n cc] w fun e w' => e = .returned (.int .i64 (D.put (p : Int) (succ32 (D.get (p : Int)).1) b).1) ∧ Touch (fun k => k = bd ∨ k = bl) w w' ∧ IsDisk w' bd bl (D.put (p : Int) (succ32 (D.get (p : Int)).1) b).2 := by
  subst hp
  obtain ⟨_, _, f5⟩ := h.f
  have hd := h.disk
  have hs := Lib.hid h
  have HAB := Lib.hid hab
  clear h hab
  go_enter Tryz.func33, Tryz.ntmps33
  go_wp2_with fail
  refine (get_any bd bl D (p : Int) w hd).mono ?_; rintro e w1 ⟨a1, rfl, hb1, hi1⟩
  have f5' := (hs.out.below hb1).f.2.2
  have hd1 := hd.touch (Touch.of_below (S := fun _ => False) hb1) id id
  have hbb := hb.below hb1
  have HB1 := Lib.hid hb1
  have hsu : IntKind.u32.wrap (((D.get (p : Int)).1 : Int) + 1) = ((succ32 (D.get (p : Int)).1 : Nat) : Int) := by rw [IntKind.wrap_u32]; unfold succ32; omega
  have hsl : succ32 (D.get (p : Int)).1 < 4294967296 := Nat.mod_lt _ (by decide)
  have hsu2 : Hid ((((D.get (p : Int)).1 : Int) + 1) % 4294967296 = ((succ32 (D.get (p : Int)).1 : Nat) : Int)) := Lib.hid (by unfold succ32; omega)
  have HPUT := Lib.hid (fun (w : World) (h : IsDisk w bd bl D) (h2 : IsB w a n cc b) => put_any bd bl D (p : Int) (succ32 (D.get (p : Int)).1) a n cc b k w h h2 HAB.out hk hk2 hsl)
  have hbb := Lib.hid hbb
  have hd1 := Lib.hid hd1
  have hsu := Lib.hid hsu
  clear hb1 hb hd f5 hi1 hk hk2 hlt hsl
  generalize hR : D.put (p : Int) (succ32 (D.get (p : Int)).1) b = R at HPUT
  generalize (D.get (p : Int)).2.1 = b1
  generalize (D.get (p : Int)).2.2 = e1
  generalize hM : succ32 (D.get (p : Int)).1 = m at hsu hsu2 HPUT
  have HR := Lib.hid hR
  have HM := Lib.hid hM
  clear hR hM
  generalize (D.get (p : Int)).1 = q at hsu hsu2 ⊢
  go_wp2_with fail
  first
    | rw [hsu.out]
    | rw [hsu2.out]
  refine (HPUT.out w1 hd1.out hbb.out).mono ?_; rintro e w2 ⟨rfl, ht2, hd2⟩
  have T2 := Lib.hid ((Touch.of_below HB1.out).trans ht2)
  have D2 := Lib.hid hd2
  clear ht2 hd2
  go_wp2_with fail
  go_ret
  rw [HR.out]
  exact ⟨rfl, T2.out, D2.out⟩

end Go.Proofs.YtggjhbpggddjmaaGreat

/- The package stores: fits; conditions: those typed. -/
namespace Go.Proofs.YtggjhbpggddjmaaGreat
open Go.RowKit
set_option linter.unusedVariables false
set_option linter.unusedSimpArgs false

theorem okB_eq (l : List Int) (items : Nat) : okB l (items : Int) = decide (okV l items) := by
  rw [Bool.eq_iff_iff, decide_eq_true_eq]
  unfold okB okV
  simp only [Bool.and_eq_true, decide_eq_true_eq, inB_iff]
  constructor
  · rintro ⟨⟨⟨h1, h2⟩, h3⟩, h4⟩; exact ⟨by omega, by omega, by omega, h4⟩
  · rintro ⟨h1, h2, h3, h4⟩; exact ⟨⟨⟨by omega, by omega⟩, by omega⟩, h4⟩

set_option maxHeartbeats 2000000 in
theorem fits_any (bs bd bl : Nat) (x : StA) (c : StC) (D : Dsk) (sq : Nat) (st : Bool) (a : Option Addr) (n cap : Nat) (l : List Int) (w : World) (h : IsStore w bs bd bl x c D) (hI : IsI w a n cap l) (hr : c.r.length ≤ 1000000) :
    Calls Tryz.prog 37 #[.pointer (some ⟨bs, 0, none⟩), .agg #[.int .u32 sq, .bool st, .slice a n cap]] w fun e w' => e = .returned (.bool (fitsC c.r.length ⟨sq, st, l⟩)) ∧ Below w.heap.size w w' := by
  obtain rfl := hI.1
  have hb0 : Below w.heap.size w (w.alloc (.cells #[.int .u32 sq, .bool st, .slice a l.length cap] 41)) := (Below.refl _ _).alloc (Nat.le_refl _) _
  have hv := heap_new w (.cells #[.int .u32 sq, .bool st, .slice a l.length cap] 41 (0, 0))
  have hst := h.below hb0
  have hI0 := hI.below hb0
  clear h hI
  cases st with
  | true =>
    have HF : Hid (fitsC c.r.length ⟨sq, true, l⟩ = okB l (c.r.length : Int)) := Lib.hid (by rw [okB_eq]; rfl)
    go_enter Tryz.func37, Tryz.ntmps37
    go_wp2_with fail
    generalize w.alloc (.cells #[.int .u32 sq, .bool true, .slice a l.length cap] 41) = w0 at hb0 hv hst hI0 ⊢
    have f0 := hst.f.1
    rw [hst.rn.1] at f0
    have q2 : w0.cell? ⟨w.heap.size, 2, none⟩ = some (.slice a l.length cap) := by rw [cell_of_block hv]; rfl
    have hd0 := (Below.refl w0.heap.size w0).drew
    go_region_held3 (fun w' => w'.cell? ⟨w.heap.size, 2, none⟩ = some (.slice a l.length cap) ∧ w'.cell? ⟨bs, 0, none⟩ = some (.slice x.ra c.r.length x.rc)) (first
        | with_reducible exact ⟨cell_later hB1 q2, cell_later hB1 f0⟩
        | with_reducible exact ⟨cell_later hd0 q2, cell_later hd0 f0⟩) (first
      | (go_at_call 49; ((with_reducible refine (vcheck_any a l.length cap l (c.r.length : Int) w0.drew (hI0.below hd0) ⟨by omega, by omega⟩).mono ?_); rintro e w1 ⟨rfl, hb1⟩; have hB1 : Below w0.heap.size w0 w1 := hd0.trans (hb1.mono hd0.size)))
      | fail)
    go_wp2_with fail
    go_ret
    exact ⟨by rw [HF.out]; rfl, hb0.trans (hB1.mono hb0.size)⟩
  | false =>
    have HF : Hid (fitsC c.r.length ⟨sq, false, l⟩ = ((l.length : Int) == 0)) := Lib.hid (by unfold fitsC; cases l <;> simp; omega)
    clear hst hI0
    go_enter Tryz.func37, Tryz.ntmps37
    go_wp2_with fail
    go_ret
    exact ⟨by rw [HF.out]; rfl, hb0⟩

end Go.Proofs.YtggjhbpggddjmaaGreat
