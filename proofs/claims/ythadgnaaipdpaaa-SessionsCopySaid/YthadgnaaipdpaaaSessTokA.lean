/- The law's variables, and New, in layer 23's statements; conditions: those typed. -/
import Derived.Test.YthadgnaaipdpaaaSessV
import Derived.Test.YthadgnaaipdpaaaTwin
import Derived.Test.YthadgnaaipdpaaaBig
import Derived.IntWalk
namespace Go.Proofs.Ythadgnaaipdpaaa
open Go.RowKit
set_option linter.unusedVariables false

theorem drawV_cells (d : List UInt8) : drawV d = .agg (bcells d).toArray := rfl
theorem info_cfg : (Try.prog.info? 27).map (·.size) = some 5 := by kernel_rfl
theorem info_draws : (Try.prog.info? 30).map (·.size) = some 32 := by kernel_rfl
theorem info_draw : (Try.prog.info? 29).map (·.size) = some 16 := by kernel_rfl
theorem zero_cfg : (Try.prog.info? 27).map (·.zero) = some (some (.agg #[.slice none 0 0, .slice none 0 0, .slice none 0 0, .slice none 0 0, .int .u64 0])) := by kernel_rfl
theorem zero_draws : (Try.prog.info? 30).map (·.zero) = some (some (.agg (Array.replicate 32 (.int .u8 0)))) := by kernel_rfl

theorem u8_wrap (k : UInt8) : IntKind.u8.wrap (k.toNat : Int) = (k.toNat : Int) := by have := u8_lt k; rw [IntKind.wrap_u8']; omega
theorem login_noD (bt b1 b2 b3 : Nat) (T : Tbl) (k : UInt8) (a : Option Addr) (n c : Nat) (l : List UInt8) (d : List UInt8) (w : World) (h : IsTbl w bt b1 b2 b3 T) (hl : IsB w a n c l) (hn : ¬ T.knows k l) :
    Calls Try.prog 9 #[.pointer (some ⟨bt, 0, none⟩), .int .u8 k.toNat, .slice a n c, .agg (bcells d).toArray] w fun e w' => e = .returned (.tuple #[.int .u64 0, .int .i64 9]) ∧ Below w.heap.size w w' := login_no bt b1 b2 b3 T k a n c l d w h hl hn
theorem at_cell {w : World} {g o : Nat} {v : Value} (h : w.cell? ⟨g, o, none⟩ = some v) : At w (some ⟨g, o, none⟩) [v] := At.of_cells fun j hj => by
  obtain rfl : j = 0 := by simp at hj; exact hj
  exact h
/-- A config's cells. -/
def cfgL (ra : Option Addr) (rn rc : Nat) (sa : Option Addr) (sn sc : Nat) (aa : Option Addr) (an ac : Nat) (ua : Option Addr) (un uc : Nat) (uv : UInt64) : List Value := [.slice ra rn rc, .slice sa sn sc, .slice aa an ac, .slice ua un uc, .int .u64 uv.toNat]
theorem cfgL_length (ra : Option Addr) (rn rc : Nat) (sa : Option Addr) (sn sc : Nat) (aa : Option Addr) (an ac : Nat) (ua : Option Addr) (un uc : Nat) (uv : UInt64) : (cfgL ra rn rc sa sn sc aa an ac ua un uc uv).length = 5 := rfl

/-- The law's own variables: the config, and the draws. -/
structure TokSt (w : World) (bc bd : Nat) (cv dL : List Value) : Prop where
  c : w.heap[bc]? = some (.cells cv.toArray 27 (0, 0))
  d : w.heap[bd]? = some (.cells dL.toArray 30 (0, 0))
theorem TokSt.keep {S : Nat → Prop} {w w' : World} {bc bd : Nat} {cv dL : List Value} (h : TokSt w bc bd cv dL) (ht : Touch S w w') (hm : MapsOnly S w) : TokSt w' bc bd cv dL := ⟨ht.heap h.c (hm.cells h.c), ht.heap h.d (hm.cells h.d)⟩
theorem TokSt.below {w w' : World} {bc bd : Nat} {cv dL : List Value} (h : TokSt w bc bd cv dL) (hb : Below w.heap.size w w') : TokSt w' bc bd cv dL := h.keep (Touch.of_below (S := fun _ => False) hb) (mapsNone _)

theorem newT_at (L : List (List UInt8)) (ad au : List UInt8) (k : Nat) (hk : k < L.length) (h8 : L.length ≤ 8) : (newT L ad au).secrets (UInt8.ofNat (k + 1)) = some L[k] := by
  have e : (UInt8.ofNat (k + 1)).toNat = k + 1 := by simp; omega
  have n0 : UInt8.ofNat (k + 1) ≠ 0 := fun h => by rw [h] at e; simp at e
  have n255 : UInt8.ofNat (k + 1) ≠ 255 := fun h => by rw [h] at e; simp at e; omega
  show secF L ad au _ = _
  unfold secF secUp
  rw [if_neg n255, if_neg n0, if_neg (by omega), e]
  simp [hk]
theorem newT_past (L : List (List UInt8)) (ad au : List UInt8) (h8 : L.length ≤ 8) : (newT L ad au).secrets (UInt8.ofNat (L.length + 1)) = none := by
  have e : (UInt8.ofNat (L.length + 1)).toNat = L.length + 1 := by simp; omega
  have n0 : UInt8.ofNat (L.length + 1) ≠ 0 := fun h => by rw [h] at e; simp at e
  have n255 : UInt8.ofNat (L.length + 1) ≠ 255 := fun h => by rw [h] at e; simp at e; omega
  show secF L ad au _ = _
  unfold secF secUp
  rw [if_neg n255, if_neg n0, if_neg (by omega), e]
  simp

/-- The index that a byte picks. -/
theorem pick_index (who : UInt8) (n : Nat) (h1 : 1 ≤ n) (h8 : n ≤ 8) : ∃ k : Nat, k < n ∧ k = who.toNat % n ∧ Hid ((who.toNat : Int).tmod (n : Int) = (k : Int) ∧ wrap64 (who.toNat : Int) = (who.toNat : Int) ∧ wrap64 (1 + (k : Int)) = 1 + (k : Int) ∧ wrap64 (1 + (k : Int) - 1) = (k : Int) ∧ wrap64 (k : Int) = (k : Int)) := by
  have hk := Nat.mod_lt who.toNat h1
  have hu := u8_lt who
  refine ⟨_, hk, rfl, Lib.hid ⟨rfl, ?_, ?_, ?_, ?_⟩⟩
  · unfold wrap64; omega
  · generalize who.toNat % n = k at hk
    unfold wrap64; omega
  · generalize who.toNat % n = k at hk
    unfold wrap64; omega
  · generalize who.toNat % n = k at hk
    unfold wrap64; omega

theorem rangeAt_below {B : Nat} {w w' : World} {b o : Nat} {cs : List Value} (h : w.rangeAt b o cs) (hb : b < B) (hB : Below B w w') : w'.rangeAt b o cs := fun j v hv => (hB.cell (p := ⟨b, o + j, none⟩) hb).trans (h j v hv)
/-- What TwinBytes hands back has room for one more. -/
theorem owns_shrink {w : World} {B e g m : Nat} {xs : List Value} {y : Value} (h : w.ownsRow B e 1 (.slice (some ⟨g, 0, none⟩) (m + 1) (m + 1)) (m + 1) (xs ++ [y])) (hm : xs.length = m) : w.ownsRow B e 1 (.slice (some ⟨g, 0, none⟩) m (m + 1)) m xs := by
  refine ⟨by omega, .inr ?_⟩
  rcases h.2 with ⟨h', _⟩ | ⟨g', cap, cur, hv, hb, hg, hnc, hcm, hcs, htk⟩
  · simp at h'
  · cases hv
    refine ⟨g, m + 1, cur, rfl, hb, hg, by omega, hcm, hcs, ?_⟩
    have : (cur.toList.take ((m + 1) * 1)).take (m * 1) = (xs ++ [y]).take (m * 1) := by rw [htk]
    rw [List.take_take, Nat.min_eq_left (by omega)] at this
    rw [this]
    rw [List.take_append_of_le_length (by omega), List.take_of_length_le (by omega)]
theorem who_new (L : List (List UInt8)) (ad au : List UInt8) (k : UInt8) (n : UInt64) : (newT L ad au).who k n = 9 := by
  unfold Tbl.who
  exact if_neg (fun h => by cases h)
theorem who_self (T : Tbl) (k : UInt8) (n m : UInt64) : Tbl.who { T with tokens := fun j => if j = k then some n else T.tokens j } k m = if n = m then 0 else 9 := by
  unfold Tbl.who
  show (if (if k = k then some n else T.tokens k) = some m then (0 : Int) else 9) = _
  rw [if_pos rfl]
  by_cases h : n = m
  · rw [if_pos (by rw [h]), if_pos h]
  · rw [if_neg (by simpa using h), if_neg h]
theorem who_other (T : Tbl) (k k' : UInt8) (n m : UInt64) (h : k' ≠ k) : Tbl.who { T with tokens := fun j => if j = k then some n else T.tokens j } k' m = T.who k' m := by
  unfold Tbl.who
  show (if (if k' = k then some n else T.tokens k') = some m then (0 : Int) else 9) = _
  rw [if_neg h]

theorem snewL_good {ra : Option Addr} {rn rc : Nat} {uv : UInt64} {sa : Option Addr} {sn sc : Nat} {aa : Option Addr} {an ac : Nat} {ua : Option Addr} {un uc : Nat} {L : List (List UInt8)} {ad au : List UInt8} {cv : List Value} {w : World}
    (hcv : cv = cfgL ra rn rc sa sn sc aa an ac ua un uc uv) (hL : IsBB w 0 sa sn sc L) (ha : IsB w aa an ac ad) (hu : IsB w ua un uc au) (h1 : 1 ≤ L.length) (h8 : L.length ≤ 8) (hLm : ∀ l ∈ L, l.length ≤ 140737488351232) (ham : ad.length ≤ 140737488351232) (hum : au.length ≤ 140737488351232) :
    Calls Try.prog 6 #[.agg cv.toArray] w fun e w' => ∃ bt b1 b2 b3, e = .returned (.tuple #[.pointer (some ⟨bt, 0, none⟩), .int .i64 0]) ∧ Below w.heap.size w w' ∧ IsTbl w' bt b1 b2 b3 (newT L ad au) ∧
      w.heap.size ≤ bt ∧ w.heap.size ≤ b1 ∧ w.heap.size ≤ b2 ∧ w.heap.size ≤ b3 := by
  subst hcv
  exact snew_good _ _ sa sn sc L aa an ac ad ua un uc au w 0 hL ha hu h1 h8 hLm ham hum
theorem snewL_bad {ra : Option Addr} {rn rc : Nat} {uv : UInt64} {sa : Option Addr} {sn sc : Nat} {aa : Option Addr} {an ac : Nat} {ua : Option Addr} {un uc : Nat} {cv : List Value} {w : World}
    (hcv : cv = cfgL ra rn rc sa sn sc aa an ac ua un uc uv) (hn : sn < 1 ∨ 8 < sn) :
    Calls Try.prog 6 #[.agg cv.toArray] w fun e w' => e = .returned (.tuple #[.pointer none, .int .i64 1]) ∧ Below w.heap.size w w' := by
  subst hcv
  exact snew_bad _ _ sa sn sc aa an ac ua un uc w hn

end Go.Proofs.Ythadgnaaipdpaaa
