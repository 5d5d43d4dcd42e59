/- Plain facts on a new table, for layer 23's statements; no condition. -/
import Derived.Test.YthadgnaaipdpaaaSessTokA
import Derived.Test.YthadgnaaipdpaaaSameB
namespace Go.Proofs.Ythadgnaaipdpaaa
open Go.RowKit
set_option linter.unusedVariables false

theorem newT_bidder (L : List (List UInt8)) (ad au : List UInt8) (k : Nat) (hk : k < L.length) (h8 : L.length ≤ 8) : (newT L ad au).bidder (UInt8.ofNat (k + 1)) = true := by
  have e : (UInt8.ofNat (k + 1)).toNat = k + 1 := by simp; omega
  unfold Tbl.bidder
  rw [newT_at L ad au k hk h8, e]
  simp; omega
theorem Tbl.bidder_0 (T : Tbl) : T.bidder 0 = false := by unfold Tbl.bidder; simp
theorem Tbl.bidder_255 (T : Tbl) : T.bidder 255 = false := by unfold Tbl.bidder; simp
def Tbl.put (T : Tbl) (k : UInt8) (s : UInt32) (r : List UInt8) : Tbl := { T with kept := fun j => if j = k then some (s, r) else T.kept j }
theorem Tbl.put_bidder (T : Tbl) (k j : UInt8) (s : UInt32) (r : List UInt8) : (T.put k s r).bidder j = T.bidder j := rfl
theorem Tbl.put_seqE (T : Tbl) (k j : UInt8) (s s' l : UInt32) (r : List UInt8) : (T.put k s r).seqE j s' l = T.seqE j s' l := rfl
theorem newT_short (L : List (List UInt8)) (ad au : List UInt8) : (newT L ad au).short := fun k s r h => by cases h
theorem Tbl.put_short (T : Tbl) (k : UInt8) (s : UInt32) (r : List UInt8) (h : T.short) (hr : r.length ≤ 140737488355328) : (T.put k s r).short := fun j s' r' e => by
  have e' : (if j = k then some (s, r) else T.kept j) = some (s', r') := e
  split at e'
  · cases e'; exact hr
  · exact h j s' r' e'
theorem newT_seqR (L : List (List UInt8)) (ad au : List UInt8) (k : UInt8) (s l : UInt32) : (newT L ad au).seqR k s l = [] := by
  unfold Tbl.seqR
  split <;> rfl
theorem Tbl.put_seqR (T : Tbl) (k : UInt8) (s s' l : UInt32) (r : List UInt8) : (T.put k s r).seqR k s' l = if T.seqE k s' l = 11 ∧ s = s' then r else [] := by
  unfold Tbl.seqR
  rw [Tbl.put_seqE]
  have e : (T.put k s r).kept k = some (s, r) := if_pos rfl
  rw [e]
  by_cases h : T.seqE k s' l = 11
  · rw [if_pos h]
    by_cases h2 : s = s'
    · rw [if_pos ⟨h, h2⟩]; exact if_pos h2
    · rw [if_neg (fun x => h2 x.2)]; exact if_neg h2
  · rw [if_neg h, if_neg (fun x => h x.1)]
theorem Tbl.seqE_cases (T : Tbl) (k : UInt8) (s l : UInt32) (h : T.bidder k = true) :
    (s.toNat = l.toNat + 1 ∧ T.seqE k s l = 0) ∨ (s = l ∧ s ≠ 0 ∧ T.seqE k s l = 11) ∨ (s = 0 ∧ l = 0 ∧ T.seqE k s l = 10) ∨ (s.toNat < l.toNat ∧ T.seqE k s l = 10) ∨ (l.toNat + 1 < s.toNat ∧ T.seqE k s l = 10) := by
  unfold Tbl.seqE
  rw [if_neg (by rw [h]; simp)]
  by_cases h1 : s.toNat = l.toNat + 1
  · exact .inl ⟨h1, if_pos h1⟩
  rw [if_neg h1]
  by_cases h2 : s = l
  · by_cases h3 : s = 0
    · exact .inr (.inr (.inl ⟨h3, by rw [← h2, h3], if_neg (fun x => x.2 h3)⟩))
    · exact .inr (.inl ⟨h2, h3, if_pos ⟨h2, h3⟩⟩)
  rw [if_neg (fun x => h2 x.1)]
  rcases Nat.lt_trichotomy s.toNat l.toNat with h3 | h3 | h3
  · exact .inr (.inr (.inr (.inl ⟨h3, rfl⟩)))
  · exact absurd (UInt32.toNat_inj.1 h3) h2
  · exact .inr (.inr (.inr (.inr ⟨by omega, rfl⟩)))
theorem Tbl.seqE_same (T : Tbl) (k : UInt8) (s : UInt32) (h : T.bidder k = true) : T.seqE k s s = if s = 0 then 10 else 11 := by
  unfold Tbl.seqE
  rw [if_neg (by rw [h]; simp), if_neg (by omega)]
  by_cases h0 : s = 0
  · rw [if_pos h0, if_neg (fun x => x.2 h0)]
  · rw [if_neg h0, if_pos ⟨rfl, h0⟩]
theorem u32_next (s : UInt32) : IntKind.u32.wrap ((s.toNat : Int) + 1) = ((s + 1).toNat : Int) := by
  have := s.toNat_lt
  rw [IntKind.wrap_u32, UInt32.toNat_add]
  simp

theorem u32_next' (s : UInt32) : ((s.toNat : Int) + 1) % 4294967296 = ((s + 1).toNat : Int) := by rw [← u32_next, IntKind.wrap_u32]
theorem u32_ne_next (s : UInt32) : s ≠ s + 1 := fun h => by
  have h1 := congrArg UInt32.toNat h
  have := s.toNat_lt
  rw [UInt32.toNat_add] at h1
  simp at h1
  omega
theorem u32_zero {x : UInt32} (h : (x.toNat : Int) = 0) : x = 0 := UInt32.toNat_inj.1 (by
  have h' : x.toNat = 0 := by omega
  exact h')
/-- The cells of Seqs. -/
def seqsL (cv : List Value) (who : UInt8) (s l : UInt32) (pa : Option Addr) (pn pc : Nat) : List Value := cv ++ [.int .u8 who.toNat, .int .u32 s.toNat, .int .u32 l.toNat, .slice pa pn pc]
theorem seqs_cells {w : World} {bz : Nat} {e : TypeId} {fz : Nat × Nat} {cs cv : List Value} {ra : Option Addr} {rn rc : Nat} {uv : UInt64} {sa : Option Addr} {sn sc : Nat} {aa : Option Addr} {an ac : Nat} {ua : Option Addr} {un uc : Nat} {who : UInt8} {s l : UInt32} {pa : Option Addr} {pn pc : Nat}
    (h : w.heap[bz]? = some (.cells cs.toArray e fz)) (hcs : cs = seqsL cv who s l pa pn pc) (hcv : cv = cfgL ra rn rc sa sn sc aa an ac ua un uc uv) :
    w.cell? ⟨bz, 1, none⟩ = some (.slice sa sn sc) ∧ w.cell? ⟨bz, 5, none⟩ = some (.int .u8 who.toNat) ∧ w.cell? ⟨bz, 6, none⟩ = some (.int .u32 s.toNat) ∧ w.cell? ⟨bz, 7, none⟩ = some (.int .u32 l.toNat) ∧ w.cell? ⟨bz, 8, none⟩ = some (.slice pa pn pc) := by
  subst hcs hcv
  refine ⟨?_, ?_, ?_, ?_, ?_⟩ <;> rw [cell_of_block h] <;> rfl
theorem seqs_range {w : World} {bz : Nat} {e : TypeId} {fz : Nat × Nat} {cs cv : List Value} {who : UInt8} {s l : UInt32} {pa : Option Addr} {pn pc : Nat}
    (h : w.heap[bz]? = some (.cells cs.toArray e fz)) (hcs : cs = seqsL cv who s l pa pn pc) : w.rangeAt bz 0 cv := rangeAt_mid h (by rw [hcs]; simp [seqsL])

end Go.Proofs.Ythadgnaaipdpaaa
