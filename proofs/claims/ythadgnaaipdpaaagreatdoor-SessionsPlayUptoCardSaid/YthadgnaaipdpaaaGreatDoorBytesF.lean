/- Strings of bytes, bytes.Clone, bytes.Equal: contracts of our own; conditions: those typed. -/
import Derived.Test.YthadgnaaipdpaaaGreatDoorBB
import Derived.Laws.BytesArg
import Derived.Laws.IdiomStrings
namespace Go.Proofs.YthadgnaaipdpaaaGreatDoor
open Go.RowKit
set_option linter.unusedVariables false

/-- Bytes as a string. -/
def strB (l : List UInt8) : ByteArray := ⟨l.toArray⟩
theorem strB_inj {a b : List UInt8} (h : strB a = strB b) : a = b := by
  unfold strB at h
  simpa using congrArg (fun s : ByteArray => s.data.toList) h
theorem strB_size (l : List UInt8) : (strB l).size = l.length := rfl
theorem strB_toList (a : List UInt8) : (strB a).toList = a := by rw [ByteArray.toList_eq]; rfl
theorem strB_beq (a b : List UInt8) : ((strB a).toList == (strB b).toList) = decide (a = b) := by
  rw [strB_toList, strB_toList, Bool.eq_iff_iff, beq_iff_eq, decide_eq_true_eq]

theorem run_str_isB {P : Program} {w : World} {src e dst : TypeId} (hs : P.underlying src = some (.slice e)) (he : P.underlying e = some (.int .u8)) (hd : P.underlying dst = some .string) {a : Option Addr} {n c : Nat} {l : List UInt8} (h : IsB w a n c l) :
    (convert src dst (.slice a n c)).run P w = .ok (.string (strB l)) w := by
  obtain ⟨rfl, _, _, ⟨rfl, _⟩ | ⟨b, off, rfl, _, hc⟩⟩ := h
  · cases a with
    | none => rw [run_convert_bytes_nil w src e hs he _ _ dst hd]; rfl
    | some x =>
      rw [run_convert_bytes_string w src dst e _ _ c hs he hd, run_bytesToString w _ _ c [] (by have := run_loadCells_list (P := P) w x [] (by simp); simpa using this)]
      rfl
  · have := run_convert_bytes_arg (P := P) w src e hs he b off l.length c (l.map fun x => (x.toNat : Int)) (by simp) (fun i hi => by rw [hc i hi]; simp [List.getD, hi]) dst hd
    rw [this]
    congr 2
    unfold strOfNums strB
    congr 2
    rw [List.map_map]
    exact (List.map_congr_left (fun x _ => by simp)).trans (List.map_id _)

set_option maxHeartbeats 400000 in
theorem bequal_any (a b : Option Addr) (n m c d : Nat) (l k : List UInt8) (w : World) (hl : IsB w a n c l) (hk : IsB w b m d k) :
    Calls Tryz.prog 33 #[.slice a n c, .slice b m d] w fun e w' => e = .returned (.bool (decide (l = k))) ∧ w = w' := by
  have c1 := run_str_isB (P := Tryz.prog) Tryz.underlying24 Tryz.underlying5 Tryz.underlying9 hl
  have c2 := run_str_isB (P := Tryz.prog) Tryz.underlying24 Tryz.underlying5 Tryz.underlying9 hk
  have hq := strB_beq l k
  clear hl hk
  go_enter Tryz.func33, Tryz.ntmps33
  go_wp2
  go_ret
  exact ⟨rfl, rfl⟩

set_option maxHeartbeats 400000 in
theorem bclone_any (a : Option Addr) (n c : Nat) (l : List UInt8) (w : World) (hl : IsB w a n c l) (hm : l.length ≤ 140737488351232) :
    Calls Tryz.prog 27 #[.slice a n c] w fun e w' => ∃ a' c', e = .returned (.slice a' l.length c') ∧ Below w.heap.size w w' ∧ IsB w' a' l.length c' l ∧ ∀ b off, a' = some ⟨b, off, none⟩ → w.heap.size ≤ b := by
  have hq : ∀ (w : World) (a : Option Addr) (n c : Nat), (binOp .eql 24 (.slice a n c) (.slice none 0 0)).run Tryz.prog w = .ok (.bool a.isNone) w := fun w a n c => Lib.run_eql_slice_nil w _ _ a n c 0 0 Tryz.underlying24
  cases a with
  | none =>
    have hnil : l = [] := by
      obtain ⟨_, _, _, ⟨h, _⟩ | ⟨_, _, h, _⟩⟩ := hl
      · exact h
      · cases h
    subst hnil
    clear hl
    go_enter Tryz.func27, Tryz.ntmps27
    go_wp2
    go_ret
    exact ⟨none, 0, rfl, Below.refl _ _, IsB.nil _, fun b off h => by cases h⟩
  | some x =>
    obtain rfl := hl.1
    have hat := hl.below ((Below.refl _ w).alloc (Nat.le_refl _) (.cells #[] 5)) |>.at
    clear hl
    go_enter Tryz.func27, Tryz.ntmps27
    go_wp2_with (at_builtin; refine wpList_append_any rowU8 rfl _ _ rfl w.heap.size _ 0 [] rfl (World.ownsRow_made w #[] 0 (Nat.le_refl _) (Nat.zero_le _) rfl) (some x) l.length c (bcells l) rfl (by rw [bcells_length]; omega) hat (bcells_one l) (by unfold maxLen; omega) (by omega) (by simp) ?_; intro b2 c2 w2 hown2 hg2 hat2; simp only [Nat.zero_add, List.nil_append] at hown2 hat2)
    go_ret
    refine ⟨b2, c2, rfl, ((Below.refl _ w).alloc (Nat.le_refl _) _).grown hg2 (by simp) (fun j hj => ?_), isB_of_owns hown2 rfl, fun b off hb => ?_⟩
    · have hj' : some w.heap.size = some j := hj
      cases hj'
      exact Nat.le_refl _
    · subst hb
      exact (hown2.lt b rfl).1

end Go.Proofs.YthadgnaaipdpaaaGreatDoor
