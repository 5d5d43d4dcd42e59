/- Plain laws on slots: what Put leaves; no program in sight. -/
import Derived.Test.YthenakdfdpdknaaSlotsGet
namespace Go.Proofs.Ythenakdfdpdknaa
open Go.RowKit
set_option linter.unusedVariables false

theorem numOf_append (a b : List UInt8) : numOf (a ++ b) = numOf a + 256 ^ a.length * numOf b := by
  induction a with
  | nil => simp [numOf]
  | cons x a ih =>
    show numOf (a ++ b) * 256 + x.toNat = (numOf a * 256 + x.toNat) + 256 ^ (a.length + 1) * numOf b
    rw [ih, Nat.pow_succ, Nat.add_mul]
    generalize 256 ^ a.length = P
    generalize numOf b = B
    generalize numOf a = A
    have : P * B * 256 = P * 256 * B := by rw [Nat.mul_assoc, Nat.mul_comm B, ← Nat.mul_assoc]
    rw [this]
    exact Nat.add_right_comm _ _ _
theorem numOf_leB (v k : Nat) : numOf (leB v k) = v % 256 ^ k := by
  induction k with
  | zero => simp [numOf, leB, Nat.mod_one]
  | succ k ih =>
    show numOf (leB v k ++ [UInt8.ofNat (v / 256 ^ k)]) = _
    rw [numOf_append, ih, leB_length]
    have e1 : numOf [UInt8.ofNat (v / 256 ^ k)] = v / 256 ^ k % 256 := by simp [numOf]
    rw [e1, Nat.pow_succ, Nat.mod_mul]
theorem mkB_take4 (m : Nat) (b : List UInt8) (x : List UInt8) : (mkB m b ++ x).take 4 = leB m 4 := by
  unfold mkB mk6
  simp only [List.append_assoc]
  rw [List.take_append_of_le_length (by rw [leB_length]; omega), List.take_of_length_le (by rw [leB_length]; omega)]
theorem mkB_drop4 (m : Nat) (b : List UInt8) (x : List UInt8) : ((mkB m b ++ x).drop 4).take 2 = leB b.length 2 := by
  unfold mkB mk6
  simp only [List.append_assoc]
  have h4 : (leB m 4).length = 4 := leB_length _ _
  rw [List.drop_append_of_le_length (by omega), List.drop_eq_nil_of_le (by omega), List.nil_append, List.take_append_of_le_length (by rw [leB_length]; omega), List.take_of_length_le (by rw [leB_length]; omega)]

/-- Every sector has 64 bytes. -/
def Dsk.good (D : Dsk) : Prop := Secs D.secs
theorem secAt_64 {D : Dsk} (h : D.good) (i : Nat) (hi : i < D.secs.length) : (secAt D i).length = 64 := by
  have e1 : secAt D i = D.secs[i] := by unfold secAt; simp [hi]
  rw [e1]; exact h _ (List.getElem_mem hi)
theorem run5_len {D : Dsk} (h : D.good) (p j : Nat) (hj : p + j ≤ D.secs.length) : (run5 D p j).length = 64 * j := by
  induction j with
  | zero => rfl
  | succ j ih =>
    show (run5 D p j ++ secAt D (p + j)).length = _
    rw [List.length_append, ih (by omega), secAt_64 h _ (by omega)]
    omega
theorem run5_get {D : Dsk} (h : D.good) (p j : Nat) (hj : p + j ≤ D.secs.length) (x : Nat) (hx : x < 64 * j) : (run5 D p j)[x]? = (secAt D (p + x / 64))[x % 64]? := by
  induction j with
  | zero => omega
  | succ j ih =>
    show (run5 D p j ++ secAt D (p + j))[x]? = _
    have hl := run5_len h p j (by omega)
    by_cases h1 : x < 64 * j
    · rw [List.getElem?_append_left (by omega), ih (by omega) h1]
    · rw [List.getElem?_append_right (by omega), hl, show x / 64 = j by omega, show x - 64 * j = x % 64 by omega]
theorem padS_get (b : List UInt8) (x : Nat) (hx : x < b.length) : (padS b)[x]? = b[x]? := by unfold padS; rw [List.getElem?_append_left hx]
theorem chunk_length (b : List UInt8) (j : Nat) : (chunk b j).length ≤ 64 := by unfold chunk; simp; omega
theorem run5_padded {D : Dsk} (h : D.good) (to : Nat) (b : List UInt8) (hb : b.length ≤ 320) (ht : to + 5 ≤ D.secs.length) (hs : ∀ i, i < secsOf b → secAt D (to + i) = padS (chunk b i)) : (run5 D to 5).take b.length = b := by
  have hl := run5_len h to 5 ht
  apply List.ext_getElem?
  intro x
  by_cases hx : x < b.length
  · rw [List.getElem?_take, if_pos hx, run5_get h to 5 ht x (by omega), hs (x / 64) (by unfold secsOf; omega)]
    have hc : x % 64 < (chunk b (x / 64)).length := by unfold chunk; simp; omega
    rw [padS_get _ _ hc]
    unfold chunk
    rw [List.getElem?_take, if_pos (by omega), List.getElem?_drop, show 64 * (x / 64) + x % 64 = x by omega]
  · rw [List.getElem?_eq_none (by simp; omega), List.getElem?_eq_none (by omega)]
/-- What is written, stands. -/
theorem place_written {D : Dsk} (h : D.good) (to m : Nat) (b : List UInt8) (hb : b.length ≤ 320) (hm : m < 4294967296) (hm0 : 0 < m) (ht : to + 5 < D.secs.length) (hs : ∀ i, i < secsOf b → secAt D (to + i) = padS (chunk b i)) (hk : secAt D (to + 5) = mkB m b ++ z54) : place D to = (m, b) := by
  have h1 : numAt D to = m := by unfold numAt; rw [hk, mkB_take4, numOf_leB]; omega
  have h2 : manyAt D to = b.length := by unfold manyAt; rw [hk, mkB_drop4, numOf_leB]; omega
  unfold place
  rw [h1, h2, if_neg (by omega), run5_padded h to b hb (by omega) hs, if_pos hk.symm]
theorem run5_same {D D' : Dsk} (p j : Nat) (h : ∀ i, i < j → secAt D' (p + i) = secAt D (p + i)) : run5 D' p j = run5 D p j := by
  induction j with
  | zero => rfl
  | succ j ih =>
    show run5 D' p j ++ secAt D' (p + j) = run5 D p j ++ secAt D (p + j)
    rw [ih (fun i hi => h i (by omega)), h j (by omega)]
theorem place_same {D D' : Dsk} (p : Nat) (h : ∀ i, i < 6 → secAt D' (p + i) = secAt D (p + i)) : place D' p = place D p := by
  have e5 := run5_same p 5 (fun i hi => h i (by omega))
  have em := h 5 (by omega)
  unfold place numAt manyAt
  rw [e5, em]
theorem newestW_same {D D' : Dsk} (p : Nat) (h : ∀ i, i < 12 → secAt D' (p + i) = secAt D (p + i)) : newestW D' p = newestW D p := by
  have e0 := place_same p (fun i hi => h i (by omega))
  have e1 := place_same (D := D) (D' := D') (p + 6) (fun i hi => by have := h (6 + i) (by omega); rw [show p + 6 + i = p + (6 + i) by omega]; exact this)
  unfold newestW
  rw [e0, e1]

/-- As many writes more are let be. -/
def Dsk.room (D : Dsk) (j : Nat) : Prop := D.blown = false ∧ (D.left < 0 ∨ (j : Int) ≤ D.left)
def lessLeft (l : Int) (j : Nat) : Int := if l < 0 then l else l - j
theorem lessLeft_add {l : Int} {j : Nat} (h : l < 0 ∨ ((j + 1 : Nat) : Int) ≤ l) : lessLeft (lessLeft l j) 1 = lessLeft l (j + 1) := by
  unfold lessLeft
  by_cases h0 : l < 0
  · rw [if_pos h0, if_pos h0, if_pos h0]
  · rw [if_neg h0, if_neg h0, if_neg (by omega)]; push_cast; omega
theorem secAt_set (D : Dsk) (n : Nat) (s : List UInt8) (l : Int) (bl : Bool) (wr : Int) (x : Nat) : secAt { secs := D.secs.set n s, left := l, blown := bl, writes := wr } x = if x = n ∧ n < D.secs.length then s else secAt D x := by
  unfold secAt
  by_cases h : x = n
  · subst h
    by_cases h2 : x < D.secs.length
    · rw [if_pos ⟨rfl, h2⟩]; simp [h2]
    · rw [if_neg (fun e => h2 e.2)]; simp [h2]
  · rw [if_neg (fun e => h e.1)]
    simp only [List.getD_eq_getElem?_getD]
    rw [List.getElem?_set_ne (fun e => h e.symm)]
theorem write_room {D : Dsk} {j : Nat} (h : D.room (j + 1)) (n : Nat) (b : List UInt8) (hn : n < D.secs.length) (hb : b.length ≤ 64) :
    (D.write (n : Int) b).1 = 0 ∧ (D.write (n : Int) b).2.blown = false ∧ (D.write (n : Int) b).2.left = lessLeft D.left 1 ∧ (D.write (n : Int) b).2.writes = D.writes + 1 ∧ secAt (D.write (n : Int) b).2 n = padS b ∧ ∀ x, x ≠ n → secAt (D.write (n : Int) b).2 x = secAt D x := by
  obtain ⟨h1, h2⟩ := h
  have e : D.write (n : Int) b = (0, { D with secs := D.secs.set n (padS b), left := if 0 < D.left then D.left - 1 else D.left, writes := D.writes + 1 }) := by
    unfold Dsk.write
    rw [if_neg (by omega), if_neg (by rw [h1]; simp; push_cast at h2; omega)]
    rfl
  rw [e]
  refine ⟨rfl, h1, ?_, rfl, ?_, fun x hx => ?_⟩
  · dsimp only
    unfold lessLeft
    push_cast at h2
    split <;> split <;> omega
  · dsimp only
    rw [secAt_set, if_pos ⟨rfl, hn⟩]
  · dsimp only
    rw [secAt_set, if_neg (fun e => hx e.1)]
theorem write_good {D : Dsk} (h : D.good) (n : Int) (b : List UInt8) (hb : b.length ≤ 64) : (D.write n b).2.good := by
  unfold Dsk.write
  split
  · exact h
  · split
    · exact h
    · intro s hs
      rcases List.mem_or_eq_of_mem_set hs with h' | rfl
      · exact h s h'
      · exact padS_length b hb
theorem write_none {D : Dsk} (h0 : D.left = 0) (n : Nat) (b : List UInt8) (hn : n < D.secs.length) (hb : b.length ≤ 64) : D.write (n : Int) b = (8, { D with blown := true }) := by
  unfold Dsk.write
  rw [if_neg (by omega), if_pos (.inr h0)]
theorem write_far (D : Dsk) (n : Nat) (b : List UInt8) (x : Nat) (hx : x ≠ n) : secAt (D.write (n : Int) b).2 x = secAt D x := by
  unfold Dsk.write
  split
  · rfl
  · split
    · rfl
    · dsimp only
      rw [show ((n : Int)).toNat = n from rfl, secAt_set, if_neg (fun e => hx e.1)]
theorem wrs_good {D : Dsk} (h : D.good) (to : Nat) (b : List UInt8) (j : Nat) : (wrs D to b j).2.good := by
  induction j with
  | zero => exact h
  | succ j ih =>
    show (if (wrs D to b j).1 ≠ 0 then _ else _ : Int × Dsk).2.good
    split
    · exact ih
    · exact write_good ih _ _ (chunk_length _ _)
theorem wrs_far (D : Dsk) (to : Nat) (b : List UInt8) (j : Nat) (x : Nat) (hx : x < to ∨ to + j ≤ x) : secAt (wrs D to b j).2 x = secAt D x := by
  induction j with
  | zero => rfl
  | succ j ih =>
    show secAt (if (wrs D to b j).1 ≠ 0 then _ else _ : Int × Dsk).2 x = _
    split
    · exact ih (by omega)
    · rw [write_far _ _ _ _ (by omega)]; exact ih (by omega)
theorem wrs_room {D : Dsk} (to : Nat) (b : List UInt8) (j : Nat) (hr : D.room j) (ht : to + j ≤ D.secs.length) :
    (wrs D to b j).1 = 0 ∧ (wrs D to b j).2.blown = false ∧ (wrs D to b j).2.left = lessLeft D.left j ∧ (wrs D to b j).2.writes = D.writes + j ∧ ∀ i, i < j → secAt (wrs D to b j).2 (to + i) = padS (chunk b i) := by
  induction j with
  | zero => exact ⟨rfl, hr.1, by unfold lessLeft; split <;> simp [wrs], by simp [wrs], fun i hi => by omega⟩
  | succ j ih =>
    obtain ⟨a1, a2, a3, a4, a5⟩ := ih ⟨hr.1, by have := hr.2; push_cast at this; omega⟩ (by omega)
    have e : wrs D to b (j + 1) = (wrs D to b j).2.write ((to + j : Nat) : Int) (chunk b j) := if_neg (fun h => h a1)
    have hr' : (wrs D to b j).2.room 1 := ⟨a2, by rw [a3]; unfold lessLeft; have := hr.2; push_cast at this; split <;> omega⟩
    obtain ⟨b1, b2, b3, b4, b5, b6⟩ := write_room (j := 0) hr' (to + j) (chunk b j) (by rw [wrs_len]; omega) (chunk_length _ _)
    rw [e]
    refine ⟨b1, b2, by rw [b3, a3]; exact lessLeft_add hr.2, by rw [b4, a4]; push_cast; omega, fun i hi => ?_⟩
    by_cases hij : i = j
    · subst hij; exact b5
    · rw [b6 _ (by omega)]; exact a5 i (by omega)
/-- Where the writes run out. -/
theorem wrs_torn {D : Dsk} (to : Nat) (b : List UInt8) (k j : Nat) (hB : D.blown = false) (hk : D.left = (k : Int)) (hj : k < j) (ht : to + j ≤ D.secs.length) : (wrs D to b j).1 = 8 := by
  obtain ⟨a1, a2, a3, a4, a5⟩ := wrs_room (D := D) to b k ⟨hB, .inr (by omega)⟩ (by omega)
  have e : wrs D to b (k + 1) = (wrs D to b k).2.write ((to + k : Nat) : Int) (chunk b k) := if_neg (fun h => h a1)
  have h0 : (wrs D to b k).2.left = 0 := by rw [a3, hk]; unfold lessLeft; split <;> omega
  rw [write_none h0 _ _ (by rw [wrs_len]; omega) (chunk_length _ _)] at e
  have h8 : (wrs D to b (k + 1)).1 = 8 := by rw [e]
  obtain ⟨i, rfl⟩ : ∃ i, j = k + 1 + i := ⟨j - (k + 1), by omega⟩
  rw [wrs_stuck D to b (k + 1) i (by rw [h8]; decide)]
  exact h8

end Go.Proofs.Ythenakdfdpdknaa
