/- The package disks: what Blown returns; conditions: those typed. -/
import Derived.Test.YtppmpgkkegldnaaDoorDisksN
namespace Go.Proofs.YtppmpgkkegldnaaDoor
open Go.RowKit
set_option linter.unusedVariables false

theorem blown_disk (bd bl : Nat) (D : Dsk) (w : World) (h : IsDisk w bd bl D) :
    Calls Tryd.prog 15 #[.pointer (some ⟨bd, 0, none⟩)] w fun e w' => e = .returned (.bool D.blown) ∧ w = w' := by
  obtain ⟨f0, f1, f2, f3⟩ := h.field
  go_enter Tryd.func15, Tryd.ntmps15
  go_wp2
  go_ret
  exact ⟨rfl, rfl⟩
set_option maxHeartbeats 1000000 in
theorem blown_nil (w : World) :
    Calls Tryd.prog 15 #[.pointer none] w fun e w' => e = .returned (.bool false) ∧ Below w.heap.size w w' := by
  go_enter Tryd.func15, Tryd.ntmps15
  go_wp2
  go_ret
  exact ⟨rfl, Below.refl _ _⟩
set_option maxHeartbeats 1000000 in
theorem blown_zero (bz : Nat) (w : World) (h : IsZero w bz) :
    Calls Tryd.prog 15 #[.pointer (some ⟨bz, 0, none⟩)] w fun e w' => e = .returned (.bool false) ∧ Below w.heap.size w w' := by
  obtain ⟨f0, f1, f2, f3⟩ := h.field
  have hlt := lt_of_heap h
  clear h
  go_enter Tryd.func15, Tryd.ntmps15
  go_wp2
  go_ret
  exact ⟨rfl, Below.refl _ _⟩

end Go.Proofs.YtppmpgkkegldnaaDoor
