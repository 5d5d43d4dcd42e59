/- Plain laws on slots: Put, whole and torn; no program in sight. -/
import Derived.Test.YthenakdfdpdknaaSlotsLaw
namespace Go.Proofs.Ythenakdfdpdknaa
open Go.RowKit
set_option linter.unusedVariables false

theorem place_num (D : Dsk) (p : Nat) : (place D p).1 = 0 ∨ (place D p).1 = numAt D p := by
  unfold place
  split
  · exact .inl rfl
  · split
    · exact .inr rfl
    · exact .inl rfl
/-- What stands raw in a slot's two marks. -/
def rawOk (D : Dsk) (p : Nat) : Prop := numAt D p ≤ (newestW D p).1.1 ∧ numAt D (p + 6) ≤ (newestW D p).1.1 ∧ (numAt D (newestW D p).2 = 0 ∨ numAt D (newestW D p).2 < (newestW D p).1.1)

/-- The disk behind a record that was put wholly. -/
structure PutFull (D D' : Dsk) (p m : Nat) (b : List UInt8) : Prop where
  good : D'.good
  blown : D'.blown = false
  left : D'.left = lessLeft D.left (secsOf b + 1)
  writes : D'.writes = D.writes + (secsOf b + 1 : Nat)
  len : D'.secs.length = D.secs.length
  new : (newestW D' p).1 = (m, b)
  far : ∀ x, x < p ∨ p + 12 ≤ x → secAt D' x = secAt D x
  raw : rawOk D p → rawOk D' p

theorem mkB_len (m : Nat) (b : List UInt8) : (mkB m b).length ≤ 64 := by rw [mkB_length]; decide
theorem padS_mkB (m : Nat) (b : List UInt8) : padS (mkB m b) = mkB m b ++ z54 := by unfold padS z54; rw [mkB_length]

theorem numAt_mk {D : Dsk} (to m : Nat) (b : List UInt8) (hm : m < 4294967296) (hk : secAt D (to + 5) = mkB m b ++ z54) : numAt D to = m := by unfold numAt; rw [hk, mkB_take4, numOf_leB]; omega

theorem put_is {D : Dsk} (p m : Nat) (b : List UInt8) (hp : p + 12 ≤ D.secs.length) (hb : b.length ≤ 320) (hgt : (newestW D p).1.1 < m) :
    D.put (p : Int) m b = if (wrs D (newestW D p).2 b (secsOf b)).1 ≠ 0 then (8, (wrs D (newestW D p).2 b (secsOf b)).2) else
      if ((wrs D (newestW D p).2 b (secsOf b)).2.write ((newestW D p).2 + 5 : Nat) (mkB m b)).1 ≠ 0 then (8, ((wrs D (newestW D p).2 b (secsOf b)).2.write ((newestW D p).2 + 5 : Nat) (mkB m b)).2) else
      (0, ((wrs D (newestW D p).2 b (secsOf b)).2.write ((newestW D p).2 + 5 : Nat) (mkB m b)).2) := by
  unfold Dsk.put
  rw [if_neg (by omega), if_neg (by omega), if_neg (by show ¬ m ≤ (newestW D p).1.1; omega)]
  rfl

theorem put_full {D : Dsk} (h : D.good) (p m : Nat) (b : List UInt8) (hp : p + 12 ≤ D.secs.length) (hb : b.length ≤ 320) (hm : m < 4294967296) (hgt : (newestW D p).1.1 < m) (hr : D.room (secsOf b + 1)) :
    (D.put (p : Int) m b).1 = 0 ∧ PutFull D (D.put (p : Int) m b).2 p m b := by
  have hput := put_is p m b hp hb hgt
  have hto := newestW_to D p
  have hnew : newestW D p = newestW D p := rfl
  have hsec : secsOf b ≤ 5 := by unfold secsOf; omega
  generalize hto2 : (newestW D p).2 = to at hput hto
  obtain ⟨a1, a2, a3, a4, a5⟩ := wrs_room (D := D) to b (secsOf b) ⟨hr.1, by have := hr.2; push_cast at this; omega⟩ (by omega)
  have afar := wrs_far D to b (secsOf b)
  have agood := wrs_good h to b (secsOf b)
  have alen := wrs_len D to b (secsOf b)
  generalize wrs D to b (secsOf b) = W at hput a1 a2 a3 a4 a5 afar agood alen
  have hr1 : W.2.room 1 := ⟨a2, by rw [a3]; unfold lessLeft; have := hr.2; push_cast at this; split <;> omega⟩
  obtain ⟨b1, b2, b3, b4, b5, b6⟩ := write_room (j := 0) hr1 (to + 5) (mkB m b) (by rw [alen]; omega) (mkB_len m b)
  have bgood := write_good agood ((to + 5 : Nat) : Int) (mkB m b) (mkB_len m b)
  have blen := W.2.write_len ((to + 5 : Nat) : Int) (mkB m b)
  generalize W.2.write ((to + 5 : Nat) : Int) (mkB m b) = V at hput b1 b2 b3 b4 b5 b6 bgood blen
  rw [if_neg (by rw [a1]; simp), if_neg (by rw [b1]; simp)] at hput
  rw [hput]
  refine ⟨rfl, ?_⟩
  have hsec2 : ∀ i, i < secsOf b → secAt V.2 (to + i) = padS (chunk b i) := fun i hi => by rw [b6 _ (by omega)]; exact a5 i hi
  have hmk : secAt V.2 (to + 5) = mkB m b ++ z54 := by rw [b5, padS_mkB]
  have hm0 : 0 < m := by omega
  have hpl : place V.2 to = (m, b) := place_written bgood to m b hb hm hm0 (by rw [blen, alen]; omega) hsec2 hmk
  have hoth : ∀ q, (q = p ∨ q = p + 6) → q ≠ to → ∀ i, i < 6 → secAt V.2 (q + i) = secAt D (q + i) := fun q hq hne i hi => by
    rw [b6 _ (by omega), afar _ (by omega)]
  have hnum : ∀ q, (q = p ∨ q = p + 6) → (place D q).1 ≤ (newestW D p).1.1 := fun q hq => by
    unfold newestW
    split
    · rcases hq with rfl | rfl <;> dsimp only <;> omega
    · split
      · rcases hq with rfl | rfl <;> dsimp only <;> omega
      · rcases hq with rfl | rfl <;> dsimp only <;> omega
  have hnew2 : newestW V.2 p = ((m, b), if to = p then p + 6 else p) := by
    rcases hto with rfl | rfl
    · have e6 := place_same (D := D) (D' := V.2) (to + 6) (hoth (to + 6) (.inr rfl) (by omega))
      have := hnum (to + 6) (.inr rfl)
      unfold newestW
      rw [hpl, e6, if_neg (by dsimp only; omega), if_pos hm0, if_pos rfl]
    · have e0 := place_same (D := D) (D' := V.2) p (hoth p (.inl rfl) (by omega))
      have := hnum p (.inl rfl)
      unfold newestW
      rw [hpl, e0, if_pos (by dsimp only; omega), if_neg (by omega)]
  refine ⟨bgood, b2, ?_, ?_, by rw [blen, alen], by rw [hnew2], fun x hx => ?_, fun ⟨r1, r2, r3⟩ => ?_⟩
  · rw [b3, a3]; exact lessLeft_add hr.2
  · rw [b4, a4]; push_cast; omega
  · rw [b6 _ (by omega), afar _ (by omega)]
  · have ht : numAt V.2 to = m := numAt_mk to m b hm hmk
    unfold rawOk
    rw [hnew2]
    dsimp only
    rcases hto with rfl | rfl
    · have e6 : numAt V.2 (to + 6) = numAt D (to + 6) := by unfold numAt; rw [hoth (to + 6) (.inr rfl) (by omega) 5 (by omega)]
      rw [if_pos rfl, ht, e6]
      exact ⟨Nat.le_refl _, by omega, .inr (by omega)⟩
    · have e0 : numAt V.2 p = numAt D p := by unfold numAt; rw [hoth p (.inl rfl) (by omega) 5 (by omega)]
      rw [if_neg (by omega), ht, e0]
      exact ⟨by omega, Nat.le_refl _, .inr (by omega)⟩

theorem put_torn {D : Dsk} (h : D.good) (p m k : Nat) (b : List UInt8) (hp : p + 12 ≤ D.secs.length) (hb : b.length ≤ 320) (hgt : (newestW D p).1.1 < m) (hB : D.blown = false) (hk : D.left = (k : Int)) (hk2 : k ≤ secsOf b) :
    (D.put (p : Int) m b).1 = 8 ∧ (D.put (p : Int) m b).2.good ∧ (D.put (p : Int) m b).2.secs.length = D.secs.length ∧ ∀ x, x < (newestW D p).2 ∨ (newestW D p).2 + 5 ≤ x → secAt (D.put (p : Int) m b).2 x = secAt D x := by
  have hput := put_is p m b hp hb hgt
  have hto := newestW_to D p
  have hsec : secsOf b ≤ 5 := by unfold secsOf; omega
  generalize (newestW D p).2 = to at hput hto
  have afar := wrs_far D to b (secsOf b)
  have agood := wrs_good h to b (secsOf b)
  have alen := wrs_len D to b (secsOf b)
  by_cases hlt : k < secsOf b
  · have h8 := wrs_torn (D := D) to b k (secsOf b) hB hk hlt (by omega)
    rw [if_pos (by rw [h8]; decide)] at hput
    rw [hput]
    exact ⟨rfl, agood, alen, fun x hx => afar x (by omega)⟩
  · have hke : k = secsOf b := by omega
    obtain ⟨a1, a2, a3, a4, a5⟩ := wrs_room (D := D) to b (secsOf b) ⟨hB, .inr (by omega)⟩ (by omega)
    have h0 : (wrs D to b (secsOf b)).2.left = 0 := by rw [a3, hk]; unfold lessLeft; split <;> omega
    have hw := write_none h0 (to + 5) (mkB m b) (by rw [alen]; omega) (mkB_len m b)
    rw [if_neg (by rw [a1]; simp), hw, if_pos (by show (8 : Int) ≠ 0; decide)] at hput
    rw [hput]
    exact ⟨rfl, agood, alen, fun x hx => afar x (by omega)⟩

/-- Behind a torn one, what stood stands. -/
theorem torn_newest {D D' : Dsk} (p : Nat) (hraw : rawOk D p) (hfar : ∀ x, x < (newestW D p).2 ∨ (newestW D p).2 + 5 ≤ x → secAt D' x = secAt D x) : (newestW D' p).1 = (newestW D p).1 := by
  obtain ⟨r1, r2, r3⟩ := hraw
  have hnum' : ∀ q, (q = p ∨ q = p + 6) → numAt D' q = numAt D q := fun q hq => by
    unfold numAt
    rw [hfar _ (by rcases newestW_to D p with h | h <;> rw [h] <;> omega)]
  have hp0 := place_num D' p
  have hp6 := place_num D' (p + 6)
  rw [hnum' p (.inl rfl)] at hp0
  rw [hnum' (p + 6) (.inr rfl)] at hp6
  by_cases h1 : (place D p).1 < (place D (p + 6)).1
  · have hn : newestW D p = (place D (p + 6), p) := if_pos h1
    rw [hn] at r1 r2 r3 hfar ⊢
    dsimp only at r1 r2 r3 hfar ⊢
    have e6 := place_same (D := D) (D' := D') (p + 6) (fun i hi => hfar _ (by omega))
    have : (place D' p).1 < (place D' (p + 6)).1 := by rw [e6]; omega
    unfold newestW
    rw [if_pos this, e6]
  · by_cases h2 : 0 < (place D p).1
    · have hn : newestW D p = (place D p, p + 6) := by unfold newestW; rw [if_neg h1, if_pos h2]
      rw [hn] at r1 r2 r3 hfar ⊢
      dsimp only at r1 r2 r3 hfar ⊢
      have e0 := place_same (D := D) (D' := D') p (fun i hi => hfar _ (by omega))
      unfold newestW
      rw [e0, if_neg (by omega), if_pos h2]
    · have hn : newestW D p = ((0, []), p) := by unfold newestW; rw [if_neg h1, if_neg h2]
      rw [hn] at r1 r2 r3 hfar ⊢
      dsimp only at r1 r2 r3 hfar ⊢
      unfold newestW
      rw [if_neg (by omega), if_neg (by omega)]

theorem put_old {D : Dsk} (p m : Nat) (b : List UInt8) (hp : p + 12 ≤ D.secs.length) (hb : b.length ≤ 320) (hle : m ≤ (newestW D p).1.1) : D.put (p : Int) m b = (10, D) := by
  unfold Dsk.put
  rw [if_neg (by omega), if_neg (by omega), if_pos (by show m ≤ (newestW D p).1.1; omega)]
theorem put_limit {D : Dsk} (p m : Nat) (b : List UInt8) (hp : p + 12 ≤ D.secs.length) (hb : 320 < b.length) : D.put (p : Int) m b = (3, D) := by
  unfold Dsk.put
  rw [if_neg (by omega), if_pos hb]
theorem get_is {D : Dsk} (p : Nat) (hp : p + 12 ≤ D.secs.length) : D.get (p : Int) = ((newestW D p).1.1, (newestW D p).1.2, 0) := if_neg (by omega)

/-- A new disk. -/
def newD (n : Nat) : Dsk := ⟨List.replicate n zsec, -1, false, 0⟩
theorem newD_good (n : Nat) : (newD n).good := fun s hs => by
  have : s = zsec := List.eq_of_mem_replicate hs
  rw [this]; exact zsec_length
theorem newD_len (n : Nat) : (newD n).secs.length = n := by simp [newD]
theorem newD_numAt (n p : Nat) : numAt (newD n) p = 0 := by
  unfold numAt secAt newD
  by_cases h : p + 5 < n
  · have : (List.replicate n zsec).getD (p + 5) [] = zsec := by simp [h]
    rw [this]; rfl
  · have : (List.replicate n zsec).getD (p + 5) [] = [] := by simp [h]
    rw [this]; rfl
theorem newD_place (n p : Nat) : place (newD n) p = (0, []) := if_pos (.inl (newD_numAt n p))
theorem newD_newest (n p : Nat) : newestW (newD n) p = ((0, []), p) := by
  unfold newestW
  rw [newD_place, newD_place]
  rfl
theorem newD_raw (n p : Nat) : rawOk (newD n) p := by
  unfold rawOk
  rw [newD_newest, newD_numAt, newD_numAt]
  exact ⟨Nat.le_refl _, Nat.le_refl _, .inl rfl⟩

end Go.Proofs.Ythenakdfdpdknaa
