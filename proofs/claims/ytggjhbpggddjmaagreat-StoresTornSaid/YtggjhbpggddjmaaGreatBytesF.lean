/- Strings of bytes, bytes.Clone, bytes.Equal: contracts of our own; conditions: those typed. -/
import Derived.Test.YtggjhbpggddjmaaGreatGHeap
import Derived.Laws.BytesArg
import Derived.Laws.IdiomStrings
namespace Go.Proofs.YtggjhbpggddjmaaGreat
open Go.RowKit
set_option linter.unusedVariables false

/-- Bytes as a string. -/
def strB (l : List UInt8) : ByteArray := ⟨l.toArray⟩
theorem strB_inj {a b : List UInt8} (h : strB a = strB b) : a = b := by
  unfold strB at h
  simpa using congrArg (fun s : ByteArray => s.data.toList) h
theorem strB_size (l : List UInt8) : (strB l).size = l.length := rfl
theorem strB_toList (a : List UInt8) : (strB a).toList = a := by rw [ByteArray.toList_eq]; rfl
theorem strB_beq (a b : List UInt8) : ((strB a).toList == (strB b).toList) = decide (a = b) := by
  rw [strB_toList, strB_toList, Bool.eq_iff_iff, beq_iff_eq, decide_eq_true_eq]

theorem run_str_isB {P : Program} {w : World} {src e dst : TypeId} (hs : P.underlying src = some (.slice e)) (he : P.underlying e = some (.int .u8)) (hd : P.underlying dst = some .string) {a : Option Addr} {n c : Nat} {l : List UInt8} (h : IsB w a n c l) :
    (convert src dst (.slice a n c)).run P w = .ok (.string (strB l)) w := by
  obtain ⟨rfl, _, _, ⟨rfl, _⟩ | ⟨b, off, rfl, _, hc⟩⟩ := h
  · cases a with
    | none => rw [run_convert_bytes_nil w src e hs he _ _ dst hd]; rfl
    | some x =>
      rw [run_convert_bytes_string w src dst e _ _ c hs he hd, run_bytesToString w _ _ c [] (by have := run_loadCells_list (P := P) w x [] (by simp); simpa using this)]
      rfl
  · have := run_convert_bytes_arg (P := P) w src e hs he b off l.length c (l.map fun x => (x.toNat : Int)) (by simp) (fun i hi => by rw [hc i hi]; simp [List.getD, hi]) dst hd
    rw [this]
    congr 2
    unfold strOfNums strB
    congr 2
    rw [List.map_map]
    exact (List.map_congr_left (fun x _ => by simp)).trans (List.map_id _)



end Go.Proofs.YtggjhbpggddjmaaGreat
