/- Plain laws on slots: Put, whole and torn; no program in sight. -/
import Derived.Test.YtggjhbpggddjmaaGreatGSlotsGet
import Derived.Test.YtggjhbpggddjmaaGreatBytesF
namespace Go.Proofs.YtggjhbpggddjmaaGreat
open Go.RowKit
set_option linter.unusedVariables false

theorem place_num (D : Dsk) (p : Nat) : (place D p).1 = 0 ∨ (place D p).1 = numAt D p := by
  unfold place
  split
  · exact .inl rfl
  · split
    · exact .inr rfl
    · exact .inl rfl
/-- What stands raw in a slot's two marks. -/
def rawOk (D : Dsk) (p : Nat) : Prop := numAt D p ≤ (newestW D p).1.1 ∧ numAt D (p + 6) ≤ (newestW D p).1.1 ∧ (numAt D (newestW D p).2 = 0 ∨ numAt D (newestW D p).2 < (newestW D p).1.1)

/-- The disk behind a record that was put wholly. -/
structure PutFull (D D' : Dsk) (p m : Nat) (b : List UInt8) : Prop where
  good : D'.good
  blown : D'.blown = false
  left : D'.left = lessLeft D.left (secsOf b + 1)
  writes : D'.writes = D.writes + (secsOf b + 1 : Nat)
  len : D'.secs.length = D.secs.length
  new : (newestW D' p).1 = (m, b)
  far : ∀ x, x < p ∨ p + 12 ≤ x → secAt D' x = secAt D x
  raw : rawOk D p → rawOk D' p

theorem mkB_len (m : Nat) (b : List UInt8) : (mkB m b).length ≤ 64 := by rw [mkB_length]; decide
theorem padS_mkB (m : Nat) (b : List UInt8) : padS (mkB m b) = mkB m b ++ z54 := by unfold padS z54; rw [mkB_length]

theorem numAt_mk {D : Dsk} (to m : Nat) (b : List UInt8) (hm : m < 4294967296) (hk : secAt D (to + 5) = mkB m b ++ z54) : numAt D to = m := by unfold numAt; rw [hk, mkB_take4, numOf_leB]; omega

theorem put_is {D : Dsk} (p m : Nat) (b : List UInt8) (hp : p + 12 ≤ D.secs.length) (hb : b.length ≤ 320) (hgt : (newestW D p).1.1 < m) :
    D.put (p : Int) m b = if (wrs D (newestW D p).2 b (secsOf b)).1 ≠ 0 then (8, (wrs D (newestW D p).2 b (secsOf b)).2) else
      if ((wrs D (newestW D p).2 b (secsOf b)).2.write ((newestW D p).2 + 5 : Nat) (mkB m b)).1 ≠ 0 then (8, ((wrs D (newestW D p).2 b (secsOf b)).2.write ((newestW D p).2 + 5 : Nat) (mkB m b)).2) else
      (0, ((wrs D (newestW D p).2 b (secsOf b)).2.write ((newestW D p).2 + 5 : Nat) (mkB m b)).2) := by
  unfold Dsk.put
  rw [if_neg (by omega), if_neg (by omega), if_neg (by show ¬ m ≤ (newestW D p).1.1; omega)]
  rfl

theorem put_full {D : Dsk} (h : D.good) (p m : Nat) (b : List UInt8) (hp : p + 12 ≤ D.secs.length) (hb : b.length ≤ 320) (hm : m < 4294967296) (hgt : (newestW D p).1.1 < m) (hr : D.room (secsOf b + 1)) :
    (D.put (p : Int) m b).1 = 0 ∧ PutFull D (D.put (p : Int) m b).2 p m b := by
  have hput := put_is p m b hp hb hgt
  have hto := newestW_to D p
  have hnew : newestW D p = newestW D p := rfl
  have hsec : secsOf b ≤ 5 := by unfold secsOf; omega
  generalize hto2 : (newestW D p).2 = to at hput hto
  obtain ⟨a1, a2, a3, a4, a5⟩ := wrs_room (D := D) to b (secsOf b) ⟨hr.1, by have := hr.2; push_cast at this; omega⟩ (by omega)
  have afar := wrs_far D to b (secsOf b)
  have agood := wrs_good h to b (secsOf b)
  have alen := wrs_len D to b (secsOf b)
  generalize wrs D to b (secsOf b) = W at hput a1 a2 a3 a4 a5 afar agood alen
  have hr1 : W.2.room 1 := ⟨a2, by rw [a3]; unfold lessLeft; have := hr.2; push_cast at this; split <;> omega⟩
  obtain ⟨b1, b2, b3, b4, b5, b6⟩ := write_room (j := 0) hr1 (to + 5) (mkB m b) (by rw [alen]; omega) (mkB_len m b)
  have bgood := write_good agood ((to + 5 : Nat) : Int) (mkB m b) (mkB_len m b)
  have blen := W.2.write_len ((to + 5 : Nat) : Int) (mkB m b)
  generalize W.2.write ((to + 5 : Nat) : Int) (mkB m b) = V at hput b1 b2 b3 b4 b5 b6 bgood blen
  rw [if_neg (by rw [a1]; simp), if_neg (by rw [b1]; simp)] at hput
  rw [hput]
  refine ⟨rfl, ?_⟩
  have hsec2 : ∀ i, i < secsOf b → secAt V.2 (to + i) = padS (chunk b i) := fun i hi => by rw [b6 _ (by omega)]; exact a5 i hi
  have hmk : secAt V.2 (to + 5) = mkB m b ++ z54 := by rw [b5, padS_mkB]
  have hm0 : 0 < m := by omega
  have hpl : place V.2 to = (m, b) := place_written bgood to m b hb hm hm0 (by rw [blen, alen]; omega) hsec2 hmk
  have hoth : ∀ q, (q = p ∨ q = p + 6) → q ≠ to → ∀ i, i < 6 → secAt V.2 (q + i) = secAt D (q + i) := fun q hq hne i hi => by
    rw [b6 _ (by omega), afar _ (by omega)]
  have hnum : ∀ q, (q = p ∨ q = p + 6) → (place D q).1 ≤ (newestW D p).1.1 := fun q hq => by
    unfold newestW
    split
    · rcases hq with rfl | rfl <;> dsimp only <;> omega
    · split
      · rcases hq with rfl | rfl <;> dsimp only <;> omega
      · rcases hq with rfl | rfl <;> dsimp only <;> omega
  have hnew2 : newestW V.2 p = ((m, b), if to = p then p + 6 else p) := by
    rcases hto with rfl | rfl
    · have e6 := place_same (D := D) (D' := V.2) (to + 6) (hoth (to + 6) (.inr rfl) (by omega))
      have := hnum (to + 6) (.inr rfl)
      unfold newestW
      rw [hpl, e6, if_neg (by dsimp only; omega), if_pos hm0, if_pos rfl]
    · have e0 := place_same (D := D) (D' := V.2) p (hoth p (.inl rfl) (by omega))
      have := hnum p (.inl rfl)
      unfold newestW
      rw [hpl, e0, if_pos (by dsimp only; omega), if_neg (by omega)]
  refine ⟨bgood, b2, ?_, ?_, by rw [blen, alen], by rw [hnew2], fun x hx => ?_, fun ⟨r1, r2, r3⟩ => ?_⟩
  · rw [b3, a3]; exact lessLeft_add hr.2
  · rw [b4, a4]; push_cast; omega
  · rw [b6 _ (by omega), afar _ (by omega)]
  · have ht : numAt V.2 to = m := numAt_mk to m b hm hmk
    unfold rawOk
    rw [hnew2]
    dsimp only
    rcases hto with rfl | rfl
    · have e6 : numAt V.2 (to + 6) = numAt D (to + 6) := by unfold numAt; rw [hoth (to + 6) (.inr rfl) (by omega) 5 (by omega)]
      rw [if_pos rfl, ht, e6]
      exact ⟨Nat.le_refl _, by omega, .inr (by omega)⟩
    · have e0 : numAt V.2 p = numAt D p := by unfold numAt; rw [hoth p (.inl rfl) (by omega) 5 (by omega)]
      rw [if_neg (by omega), ht, e0]
      exact ⟨by omega, Nat.le_refl _, .inr (by omega)⟩

theorem put_torn {D : Dsk} (h : D.good) (p m k : Nat) (b : List UInt8) (hp : p + 12 ≤ D.secs.length) (hb : b.length ≤ 320) (hgt : (newestW D p).1.1 < m) (hB : D.blown = false) (hk : D.left = (k : Int)) (hk2 : k ≤ secsOf b) :
    (D.put (p : Int) m b).1 = 8 ∧ (D.put (p : Int) m b).2.good ∧ (D.put (p : Int) m b).2.secs.length = D.secs.length ∧ ∀ x, x < (newestW D p).2 ∨ (newestW D p).2 + 5 ≤ x → secAt (D.put (p : Int) m b).2 x = secAt D x := by
  have hput := put_is p m b hp hb hgt
  have hto := newestW_to D p
  have hsec : secsOf b ≤ 5 := by unfold secsOf; omega
  generalize (newestW D p).2 = to at hput hto
  have afar := wrs_far D to b (secsOf b)
  have agood := wrs_good h to b (secsOf b)
  have alen := wrs_len D to b (secsOf b)
  by_cases hlt : k < secsOf b
  · have h8 := wrs_torn (D := D) to b k (secsOf b) hB hk hlt (by omega)
    rw [if_pos (by rw [h8]; decide)] at hput
    rw [hput]
    exact ⟨rfl, agood, alen, fun x hx => afar x (by omega)⟩
  · have hke : k = secsOf b := by omega
    obtain ⟨a1, a2, a3, a4, a5⟩ := wrs_room (D := D) to b (secsOf b) ⟨hB, .inr (by omega)⟩ (by omega)
    have h0 : (wrs D to b (secsOf b)).2.left = 0 := by rw [a3, hk]; unfold lessLeft; split <;> omega
    have hw := write_none h0 (to + 5) (mkB m b) (by rw [alen]; omega) (mkB_len m b)
    rw [if_neg (by rw [a1]; simp), hw, if_pos (by show (8 : Int) ≠ 0; decide)] at hput
    rw [hput]
    exact ⟨rfl, agood, alen, fun x hx => afar x (by omega)⟩

/-- Behind a torn one, what stood stands. -/
theorem torn_newest {D D' : Dsk} (p : Nat) (hraw : rawOk D p) (hfar : ∀ x, x < (newestW D p).2 ∨ (newestW D p).2 + 5 ≤ x → secAt D' x = secAt D x) : (newestW D' p).1 = (newestW D p).1 := by
  obtain ⟨r1, r2, r3⟩ := hraw
  have hnum' : ∀ q, (q = p ∨ q = p + 6) → numAt D' q = numAt D q := fun q hq => by
    unfold numAt
    rw [hfar _ (by rcases newestW_to D p with h | h <;> rw [h] <;> omega)]
  have hp0 := place_num D' p
  have hp6 := place_num D' (p + 6)
  rw [hnum' p (.inl rfl)] at hp0
  rw [hnum' (p + 6) (.inr rfl)] at hp6
  by_cases h1 : (place D p).1 < (place D (p + 6)).1
  · have hn : newestW D p = (place D (p + 6), p) := if_pos h1
    rw [hn] at r1 r2 r3 hfar ⊢
    dsimp only at r1 r2 r3 hfar ⊢
    have e6 := place_same (D := D) (D' := D') (p + 6) (fun i hi => hfar _ (by omega))
    have : (place D' p).1 < (place D' (p + 6)).1 := by rw [e6]; omega
    unfold newestW
    rw [if_pos this, e6]
  · by_cases h2 : 0 < (place D p).1
    · have hn : newestW D p = (place D p, p + 6) := by unfold newestW; rw [if_neg h1, if_pos h2]
      rw [hn] at r1 r2 r3 hfar ⊢
      dsimp only at r1 r2 r3 hfar ⊢
      have e0 := place_same (D := D) (D' := D') p (fun i hi => hfar _ (by omega))
      unfold newestW
      rw [e0, if_neg (by omega), if_pos h2]
    · have hn : newestW D p = ((0, []), p) := by unfold newestW; rw [if_neg h1, if_neg h2]
      rw [hn] at r1 r2 r3 hfar ⊢
      dsimp only at r1 r2 r3 hfar ⊢
      unfold newestW
      rw [if_neg (by omega), if_neg (by omega)]

theorem put_old {D : Dsk} (p m : Nat) (b : List UInt8) (hp : p + 12 ≤ D.secs.length) (hb : b.length ≤ 320) (hle : m ≤ (newestW D p).1.1) : D.put (p : Int) m b = (10, D) := by
  unfold Dsk.put
  rw [if_neg (by omega), if_neg (by omega), if_pos (by show m ≤ (newestW D p).1.1; omega)]
theorem put_limit {D : Dsk} (p m : Nat) (b : List UInt8) (hp : p + 12 ≤ D.secs.length) (hb : 320 < b.length) : D.put (p : Int) m b = (3, D) := by
  unfold Dsk.put
  rw [if_neg (by omega), if_pos hb]
theorem get_is {D : Dsk} (p : Nat) (hp : p + 12 ≤ D.secs.length) : D.get (p : Int) = ((newestW D p).1.1, (newestW D p).1.2, 0) := if_neg (by omega)

/-- A new disk. -/
def newD (n : Nat) : Dsk := ⟨List.replicate n zsec, -1, false, 0⟩
theorem newD_good (n : Nat) : (newD n).good := fun s hs => by
  have : s = zsec := List.eq_of_mem_replicate hs
  rw [this]; exact zsec_length
theorem newD_len (n : Nat) : (newD n).secs.length = n := by simp [newD]
theorem newD_numAt (n p : Nat) : numAt (newD n) p = 0 := by
  unfold numAt secAt newD
  by_cases h : p + 5 < n
  · have : (List.replicate n zsec).getD (p + 5) [] = zsec := by simp [h]
    rw [this]; rfl
  · have : (List.replicate n zsec).getD (p + 5) [] = [] := by simp [h]
    rw [this]; rfl
theorem newD_place (n p : Nat) : place (newD n) p = (0, []) := if_pos (.inl (newD_numAt n p))
theorem newD_newest (n p : Nat) : newestW (newD n) p = ((0, []), p) := by
  unfold newestW
  rw [newD_place, newD_place]
  rfl
theorem newD_raw (n p : Nat) : rawOk (newD n) p := by
  unfold rawOk
  rw [newD_newest, newD_numAt, newD_numAt]
  exact ⟨Nat.le_refl _, Nat.le_refl _, .inl rfl⟩

end Go.Proofs.YtggjhbpggddjmaaGreat

/- The statements' helper lives of layer 19; no condition. -/
namespace Go.Proofs.YtggjhbpggddjmaaGreat
open Go.RowKit
set_option linter.unusedVariables false

theorem PutFull.fine {D D' : Dsk} {p m : Nat} {b : List UInt8} {k : Int} (h : PutFull D D' p m b) (hk : D.fine k) (hb : b.length ≤ 320) : D'.fine (k + 6) := by
  have hs : secsOf b ≤ 5 := by unfold secsOf; omega
  refine ⟨?_, ?_, ?_⟩
  · rw [h.writes]; have := hk.1; omega
  · rw [h.writes]; have := hk.2.1; omega
  · rw [h.left]; have := hk.2.2; unfold lessLeft; split <;> omega
theorem PutFull.free {D D' : Dsk} {p m : Nat} {b : List UInt8} (h : PutFull D D' p m b) (hl : D.left = -1) : D'.left = -1 := by rw [h.left, hl]; rfl
theorem free_room {D : Dsk} (hB : D.blown = false) (hl : D.left = -1) (j : Nat) : D.room j := ⟨hB, .inl (by omega)⟩
theorem newD_room (n j : Nat) : (newD n).room j := ⟨rfl, .inl (by show (-1 : Int) < 0; decide)⟩
theorem newD_fine (n : Nat) : (newD n).fine 0 := ⟨by show (0 : Int) ≤ 0; decide, by show (0 : Int) ≤ 0; decide, by show (-1 : Int) ≤ _; decide⟩
theorem IsDisk.good {w : World} {bd bl : Nat} {D : Dsk} (h : IsDisk w bd bl D) : D.good := h.secs
theorem new_disk (n : Nat) (nI : Int) (w : World) (hI : nI = (n : Int)) (h1 : 1 ≤ n) (h2 : n ≤ 1024) :
    Calls Tryz.prog 28 #[.int .i64 nI] w fun e w' => ∃ bd bl, e = .returned (.tuple #[.pointer (some ⟨bd, 0, none⟩), .int .i64 0]) ∧ Below w.heap.size w w' ∧ w.heap.size ≤ bd ∧ w.heap.size ≤ bl ∧ IsDisk w' bd bl (newD n) := by
  subst hI
  exact new_good n w h1 h2
theorem frozen1 (w : World) (x : UInt8) (e : TypeId) (fz : Nat × Nat) : IsB (w.alloc (.cells #[.int .u8 x.toNat] e fz)) (some ⟨w.heap.size, 0, none⟩) 1 1 [x] := IsB.fresh w [x] _ e fz rfl 1 1 rfl rfl (by simp [maxLen])

end Go.Proofs.YtggjhbpggddjmaaGreat

/- What a store on a disk keeps, and what its calls make of it: plain Lean; no condition but those typed. -/
namespace Go.Proofs.YtggjhbpggddjmaaGreat
open Go.RowKit
set_option linter.unusedVariables false

/-- A list that has all of another one, each once, and is not longer, has no more. -/
theorem mem_of_all {α : Type} [DecidableEq α] (a : List α) : ∀ (l : List α), a.Nodup → (∀ x ∈ a, x ∈ l) → l.length ≤ a.length → ∀ z ∈ l, z ∈ a := by
  induction a with
  | nil => intro l _ _ hl z hz; have : l = [] := List.eq_nil_of_length_eq_zero (by simpa using hl); rw [this] at hz; cases hz
  | cons x a ih =>
    intro l hn hs hl z hz
    obtain ⟨hx, hn'⟩ := List.nodup_cons.1 hn
    have hxl := hs x List.mem_cons_self
    by_cases hzx : z = x
    · rw [hzx]; exact List.mem_cons_self
    refine List.mem_cons_of_mem _ (ih (l.erase x) hn' (fun y hy => ?_) ?_ z ?_)
    · have : y ≠ x := fun e => hx (e ▸ hy)
      exact (List.mem_erase_of_ne this).2 (hs y (List.mem_cons_of_mem _ hy))
    · rw [List.length_erase_of_mem hxl]; simp at hl; omega
    · exact (List.mem_erase_of_ne hzx).2 hz
theorem ordC_bd {n : Nat} {l : List Int} (h : ordC n l = true) : l.length = n ∧ ∀ z ∈ l, 0 ≤ z ∧ z < n := by
  unfold ordC at h
  rw [Bool.and_eq_true, decide_eq_true_eq, List.all_eq_true] at h
  obtain ⟨h1, h2⟩ := h
  refine ⟨h1, fun z hz => ?_⟩
  have hn : (allC n).Nodup := by
    unfold allC
    refine List.Pairwise.map _ (fun a b hab e => hab ?_) List.nodup_range
    exact Int.ofNat.inj e
  have := mem_of_all (allC n) l hn (fun x hx => by
    obtain ⟨i, hi, rfl⟩ := List.mem_map.1 hx
    exact of_decide_eq_true (h2 i hi)) (by rw [allC_length]; omega) z hz
  obtain ⟨i, hi, rfl⟩ := List.mem_map.1 this
  have := List.mem_range.1 hi
  exact ⟨Int.natCast_nonneg _, by show ((i : Nat) : Int) < n; omega⟩
theorem turnsC_bd {n p : Nat} {l : List Int} (hn : n ≤ 8) (h : turnsC n p l = true) : p ≤ 3 ∧ l.length ≤ 8 ∧ ∀ z ∈ l, 0 ≤ z ∧ z < 4294967296 := by
  unfold turnsC at h
  split at h
  · obtain ⟨h1, h2⟩ := ordC_bd h
    exact ⟨by omega, by omega, fun z hz => by have := h2 z hz; omega⟩
  · rw [Bool.and_eq_true, decide_eq_true_eq, List.isEmpty_iff] at h
    obtain ⟨h1, rfl⟩ := h
    exact ⟨h1, by simp, fun z hz => by cases hz⟩
theorem encP_len (p : Nat) (l : List Int) (h : l.length ≤ 8) : (encP p l).length ≤ 34 := by
  unfold encP
  rw [List.length_cons, encL_length, List.length_take]; omega
theorem StR.enc_len (x : StR) (h : x.bid.length ≤ 8) : x.enc.length ≤ 38 := by
  unfold StR.enc
  rw [List.length_append, List.length_append, leB_length, leB_length, encL_length, List.length_take]; omega
theorem secsOf_le {b : List UInt8} (h : b.length ≤ 64) : secsOf b ≤ 1 := by unfold secsOf; omega

/-- The phase that a disk tells, and the order; a bidder's record. -/
def phD (n : Nat) (D : Dsk) : Nat × List Int × Bool := phaseC n (D.get ((12 : Nat) : Int)).1 (D.get ((12 : Nat) : Int)).2.1
def rcD (items : Nat) (D : Dsk) (i : Nat) : StR × Bool := recC items (D.get ((12 * (2 + i) : Nat) : Int)).1 (D.get ((12 * (2 + i) : Nat) : Int)).2.1
/-- What Turn does, and Set. -/
def succ32 (k : Nat) : Nat := (k + 1) % 4294967296
def turnD (n : Nat) (D : Dsk) (p : Nat) (l : List Int) : Int × Dsk :=
  if turnsC n p l = false then (1, D) else if nextC (phD n D).1 p = false then (8, D) else D.put ((12 : Nat) : Int) (succ32 (D.get ((12 : Nat) : Int)).1) (encP p l)
def setD (n items : Nat) (D : Dsk) (who : Int) (x : StR) : Int × Dsk :=
  if who < 0 ∨ (n : Int) ≤ who then (1, D) else if fitsC items x = false then (1, D) else if x.seq ≤ (rcD items D who.toNat).1.seq then (10, D) else
    D.put ((12 * (2 + who.toNat) : Nat) : Int) (succ32 (D.get ((12 * (2 + who.toNat) : Nat) : Int)).1) x.enc

theorem fitsC_bd {items : Nat} {x : StR} (h : fitsC items x = true) : x.bid.length ≤ 8 ∧ ∀ z ∈ x.bid, 0 ≤ z ∧ z < 4294967296 := by
  unfold fitsC at h
  split at h
  · have h := of_decide_eq_true h
    exact ⟨by have := h.2.1; have := h.2.2.1; omega, fun z hz => by have := h.2.2.2 z hz; omega⟩
  · have : x.bid = [] := by simpa using h
    rw [this]; exact ⟨by simp, fun z hz => by cases hz⟩

/-- A disk that a store of a config is on: all that stands is read, all slots are fit to be written. -/
structure StInv (c : StC) (D : Dsk) (j : Nat) : Prop where
  good : D.good
  blown : D.blown = false
  fine : D.fine (6 * j)
  len : 12 * (2 + c.s.length) ≤ D.secs.length
  may : c.may
  cfg : (newestW D 0).1 = (1, c.enc)
  num : (newestW D 12).1.1 ≤ (phD c.s.length D).1 ∧ (phD c.s.length D).1 ≤ 3
  numR : ∀ i, i < c.s.length → (newestW D (12 * (2 + i))).1.1 ≤ (rcD c.r.length D i).1.seq ∧ (rcD c.r.length D i).1.seq < 4294967296
  raw : ∀ i, i ≤ 1 + c.s.length → rawOk D (12 * i)
  ph : (phD c.s.length D).2.2 = true
  rc : ∀ i, i < c.s.length → (rcD c.r.length D i).2 = true
theorem StInv.n8 {c : StC} {D : Dsk} {j : Nat} (h : StInv c D j) : 1 ≤ c.s.length ∧ c.s.length ≤ 8 := h.may.s
theorem StInv.get {c : StC} {D : Dsk} {j : Nat} (h : StInv c D j) (i : Nat) (hi : i ≤ 1 + c.s.length) : D.get ((12 * i : Nat) : Int) = ((newestW D (12 * i)).1.1, (newestW D (12 * i)).1.2, 0) :=
  get_is (12 * i) (by have := h.len; have := h.n8; omega)
theorem StInv.ph_is {c : StC} {D : Dsk} {j : Nat} (h : StInv c D j) : phD c.s.length D = phaseC c.s.length (newestW D (12 * 1)).1.1 (newestW D (12 * 1)).1.2 := by
  unfold phD
  have := h.get 1 (by omega)
  rw [show (12 * 1 : Nat) = 12 from rfl] at this
  rw [this]
theorem StInv.rc_is {c : StC} {D : Dsk} {j : Nat} (h : StInv c D j) (i : Nat) (hi : i < c.s.length) : rcD c.r.length D i = recC c.r.length (newestW D (12 * (2 + i))).1.1 (newestW D (12 * (2 + i))).1.2 := by
  unfold rcD
  rw [h.get (2 + i) (by omega)]

/-- A slot's next record. -/
theorem StInv.put {c : StC} {D : Dsk} {j : Nat} (h : StInv c D j) (i : Nat) (hi0 : 1 ≤ i) (hi : i ≤ 1 + c.s.length) (hn : (newestW D (12 * i)).1.1 + 1 < 4294967296) (b : List UInt8) (hb : b.length ≤ 64) (hr : D.room (secsOf b + 1)) :
    ∃ D', D.put ((12 * i : Nat) : Int) (succ32 (D.get ((12 * i : Nat) : Int)).1) b = (0, D') ∧ PutFull D D' (12 * i) ((newestW D (12 * i)).1.1 + 1) b ∧ D'.fine (6 * (j + 1)) ∧ (∀ k, k ≠ i → newestW D' (12 * k) = newestW D (12 * k)) ∧ (∀ k, k ≤ 1 + c.s.length → rawOk D' (12 * k)) := by
  have h8 := h.n8
  have hlen := h.len
  have hs : succ32 (D.get ((12 * i : Nat) : Int)).1 = (newestW D (12 * i)).1.1 + 1 := by
    rw [h.get i hi]; unfold succ32; dsimp only; omega
  rw [hs]
  obtain ⟨a1, a2⟩ := put_full h.good (12 * i) ((newestW D (12 * i)).1.1 + 1) b (by omega) (by omega) (by omega) (by omega) hr
  have e : ∀ k, k ≠ i → newestW (D.put ((12 * i : Nat) : Int) ((newestW D (12 * i)).1.1 + 1) b).2 (12 * k) = newestW D (12 * k) := fun k hk => newestW_same (12 * k) (fun x hx => a2.far _ (by omega))
  refine ⟨_, Prod.ext a1 rfl, a2, (a2.fine h.fine (by omega)).mono (by push_cast; omega), e, fun k hk => ?_⟩
  by_cases hki : k = i
  · subst hki; exact a2.raw (h.raw k hk)
  · have := h.raw k hk
    unfold rawOk at this ⊢
    rw [e k hki]
    have en : ∀ q, (q = 12 * k ∨ q = 12 * k + 6) → numAt (D.put ((12 * i : Nat) : Int) ((newestW D (12 * i)).1.1 + 1) b).2 q = numAt D q := fun q hq => by
      unfold numAt
      rw [a2.far _ (by rcases hq with rfl | rfl <;> omega)]
    rw [en _ (.inl rfl), en _ (.inr rfl), en _ (newestW_to D (12 * k))]
    exact this

theorem StInv.turn {c : StC} {D : Dsk} {j : Nat} (h : StInv c D j) (q : Nat) (l : List Int) (hr : D.room 2) :
    ∃ e D', turnD c.s.length D q l = (e, D') ∧ StInv c D' (j + 1) ∧ (∀ i, i < c.s.length → rcD c.r.length D' i = rcD c.r.length D i) ∧
      ((e = 0 ∧ turnsC c.s.length q l = true ∧ nextC (phD c.s.length D).1 q = true ∧ phD c.s.length D' = (q, l, true) ∧ (D.left = -1 → D'.left = -1)) ∨
       (e ≠ 0 ∧ D' = D ∧ ((turnsC c.s.length q l = false ∧ e = 1) ∨ (turnsC c.s.length q l = true ∧ nextC (phD c.s.length D).1 q = false ∧ e = 8)))) := by
  have hfm : D.fine (6 * (j + 1)) := h.fine.mono (by push_cast; omega)
  have hself : StInv c D (j + 1) := ⟨h.good, h.blown, hfm, h.len, h.may, h.cfg, h.num, h.numR, h.raw, h.ph, h.rc⟩
  unfold turnD
  by_cases ht : turnsC c.s.length q l = false
  · rw [if_pos ht]
    exact ⟨1, D, rfl, hself, fun _ _ => rfl, .inr ⟨by decide, rfl, .inl ⟨ht, rfl⟩⟩⟩
  · rw [if_neg ht]
    have ht' : turnsC c.s.length q l = true := by simpa using ht
    by_cases hx : nextC (phD c.s.length D).1 q = false
    · rw [if_pos hx]
      exact ⟨8, D, rfl, hself, fun _ _ => rfl, .inr ⟨by decide, rfl, .inr ⟨ht', hx, rfl⟩⟩⟩
    · rw [if_neg hx]
      have hx' : nextC (phD c.s.length D).1 q = true := by simpa using hx
      obtain ⟨hq, hl, hv⟩ := turnsC_bd h.n8.2 ht'
      have hb := encP_len q l hl
      obtain ⟨D', p1, p2, p3, p4, p5⟩ := h.put 1 (by decide) (by omega) (by have := h.num; rw [show (12 * 1 : Nat) = 12 from rfl]; omega) (encP q l) (by omega) ⟨hr.1, by have := hr.2; have := secsOf_le (b := encP q l) (by omega); omega⟩
      rw [show (12 * 1 : Nat) = 12 from rfl] at p1
      rw [p1]
      have hlen : 12 * (2 + c.s.length) ≤ D'.secs.length := by rw [p2.len]; exact h.len
      have g12 : D'.get ((12 : Nat) : Int) = ((newestW D 12).1.1 + 1, encP q l, 0) := by
        rw [get_is 12 (by have := h.n8; omega)]
        have := p2.new
        rw [show (12 * 1 : Nat) = 12 from rfl] at this
        rw [this]
      have hph : phD c.s.length D' = (q, l, true) := by
        unfold phD
        rw [g12]
        exact phaseC_enc _ _ _ _ (by omega) (by omega) (by omega) hv ht'
      have hrc : ∀ i, i < c.s.length → rcD c.r.length D' i = rcD c.r.length D i := fun i hi => by
        unfold rcD
        rw [h.get (2 + i) (by omega), get_is (12 * (2 + i)) (by have := h.n8; omega), p4 (2 + i) (by omega)]
      have hnx : (phD c.s.length D).1 + 1 ≤ q := by
        unfold nextC at hx'
        simp at hx'
        omega
      refine ⟨0, D', rfl, ⟨p2.good, p2.blown, p3, hlen, h.may, by have := p4 0 (by decide); rw [Nat.mul_zero] at this; rw [this]; exact h.cfg, ?_, fun i hi => ?_, p5, by rw [hph], fun i hi => by rw [hrc i hi]; exact h.rc i hi⟩, hrc, .inl ⟨rfl, ht', hx', hph, p2.free⟩⟩
      · have hnew := p2.new
        rw [show (12 * 1 : Nat) = 12 from rfl] at hnew
        have := h.num
        rw [hph, hnew]
        exact ⟨by dsimp only; omega, hq⟩
      · rw [p4 (2 + i) (by omega), hrc i hi]; exact h.numR i hi

theorem StInv.set {c : StC} {D : Dsk} {j : Nat} (h : StInv c D j) (who : Int) (x : StR) (hs : x.seq < 4294967296) (hr : D.room 2) :
    ∃ e D', setD c.s.length c.r.length D who x = (e, D') ∧ StInv c D' (j + 1) ∧ phD c.s.length D' = phD c.s.length D ∧ (∀ i, i < c.s.length → (i : Int) ≠ who → rcD c.r.length D' i = rcD c.r.length D i) ∧
      ((e = 0 ∧ 0 ≤ who ∧ who < c.s.length ∧ fitsC c.r.length x = true ∧ (rcD c.r.length D who.toNat).1.seq < x.seq ∧ rcD c.r.length D' who.toNat = (x, true) ∧ (D.left = -1 → D'.left = -1)) ∨
       (e ≠ 0 ∧ D' = D ∧ (((who < 0 ∨ (c.s.length : Int) ≤ who) ∧ e = 1) ∨ (0 ≤ who ∧ who < c.s.length ∧ fitsC c.r.length x = false ∧ e = 1) ∨ (0 ≤ who ∧ who < c.s.length ∧ fitsC c.r.length x = true ∧ x.seq ≤ (rcD c.r.length D who.toNat).1.seq ∧ e = 10)))) := by
  have hfm : D.fine (6 * (j + 1)) := h.fine.mono (by push_cast; omega)
  have hself : StInv c D (j + 1) := ⟨h.good, h.blown, hfm, h.len, h.may, h.cfg, h.num, h.numR, h.raw, h.ph, h.rc⟩
  unfold setD
  by_cases hw : who < 0 ∨ (c.s.length : Int) ≤ who
  · rw [if_pos hw]
    exact ⟨1, D, rfl, hself, rfl, fun _ _ _ => rfl, .inr ⟨by decide, rfl, .inl ⟨hw, rfl⟩⟩⟩
  rw [if_neg hw]
  by_cases hf : fitsC c.r.length x = false
  · rw [if_pos hf]
    exact ⟨1, D, rfl, hself, rfl, fun _ _ _ => rfl, .inr ⟨by decide, rfl, .inr (.inl ⟨by omega, by omega, hf, rfl⟩)⟩⟩
  have hf' : fitsC c.r.length x = true := by simpa using hf
  rw [if_neg hf]
  by_cases hq : x.seq ≤ (rcD c.r.length D who.toNat).1.seq
  · rw [if_pos hq]
    exact ⟨10, D, rfl, hself, rfl, fun _ _ _ => rfl, .inr ⟨by decide, rfl, .inr (.inr ⟨by omega, by omega, hf', hq, rfl⟩)⟩⟩
  rw [if_neg hq]
  obtain ⟨k, rfl⟩ : ∃ k : Nat, who = (k : Int) := ⟨who.toNat, by omega⟩
  rw [Int.toNat_natCast] at hq ⊢
  have hk : k < c.s.length := by omega
  obtain ⟨hl, hv⟩ := fitsC_bd hf'
  have hb := x.enc_len hl
  obtain ⟨D', p1, p2, p3, p4, p5⟩ := h.put (2 + k) (by omega) (by omega) (by have := h.numR k hk; omega) x.enc (by omega) ⟨hr.1, by have := hr.2; have := secsOf_le (b := x.enc) (by omega); omega⟩
  rw [p1]
  have hlen : 12 * (2 + c.s.length) ≤ D'.secs.length := by rw [p2.len]; exact h.len
  have h8 := h.n8
  have hph : phD c.s.length D' = phD c.s.length D := by
    unfold phD
    rw [get_is 12 (by have := h.n8; omega), get_is 12 (by have := h.n8; have := h.len; omega)]
    have := p4 1 (by omega)
    rw [show (12 * 1 : Nat) = 12 from rfl] at this
    rw [this]
  have hrk : rcD c.r.length D' k = (x, true) := by
    unfold rcD
    rw [get_is (12 * (2 + k)) (by omega), p2.new]
    exact recC_enc _ _ _ (by dsimp only; omega) hs hf'
  have hrc : ∀ i, i < c.s.length → (i : Int) ≠ (k : Int) → rcD c.r.length D' i = rcD c.r.length D i := fun i hi hne => by
    unfold rcD
    rw [h.get (2 + i) (by omega), get_is (12 * (2 + i)) (by omega), p4 (2 + i) (by omega)]
  refine ⟨0, D', rfl, ⟨p2.good, p2.blown, p3, hlen, h.may, by have := p4 0 (by omega); rw [Nat.mul_zero] at this; rw [this]; exact h.cfg, ?_, fun i hi => ?_, p5, by rw [hph]; exact h.ph, fun i hi => ?_⟩, hph, hrc, .inl ⟨rfl, by omega, by omega, hf', by omega, hrk, p2.free⟩⟩
  · have h1 := p4 1 (by omega)
    rw [show (12 * 1 : Nat) = 12 from rfl] at h1
    rw [hph, h1]; exact h.num
  · by_cases hi2 : i = k
    · subst hi2
      have := h.numR i hi
      rw [hrk, p2.new]
      exact ⟨by dsimp only; omega, hs⟩
    · rw [p4 (2 + i) (by omega), hrc i hi (by omega)]; exact h.numR i hi
  · by_cases hi2 : i = k
    · subst hi2; rw [hrk]
    · rw [hrc i hi (by omega)]; exact h.rc i hi

/-- A new store on a new disk. -/
theorem StInv.made' (N : Dsk) (c : StC) (h : c.may) (g1 : N.good) (g2 : 12 * (2 + c.s.length) ≤ N.secs.length) (g3 : ∀ p, newestW N p = ((0, []), p)) (g4 : ∀ j, N.room j) (g5 : N.fine 0) (g6 : ∀ p, rawOk N p) (g7 : ∀ p, numAt N p = 0) (g8 : N.left = -1) : ∃ D', N.put ((0 : Nat) : Int) 1 c.enc = (0, D') ∧ StInv c D' 1 ∧ D'.left = -1 := by
  have hb := c.enc_length h
  obtain ⟨a1, a2⟩ := put_full g1 0 1 c.enc (by omega) hb (by decide) (by rw [g3]; decide) (g4 _)
  have e : ∀ k, k ≠ 0 → newestW (N.put ((0 : Nat) : Int) 1 c.enc).2 (12 * k) = ((0, []), 12 * k) := fun k hk => by
    rw [newestW_same (D := N) (12 * k) (fun x hx => a2.far _ (by omega)), g3]
  have hlen : 12 * (2 + c.s.length) ≤ (N.put ((0 : Nat) : Int) 1 c.enc).2.secs.length := by rw [a2.len]; exact g2
  have h8 := h.s
  have hph : phD c.s.length (N.put ((0 : Nat) : Int) 1 c.enc).2 = (0, [], true) := by
    unfold phD
    rw [get_is 12 (Nat.le_trans (by have := h.s; omega) hlen)]
    have := e 1 (by decide)
    rw [show (12 * 1 : Nat) = 12 from rfl] at this
    rw [this]; rfl
  have hrc : ∀ i, i < c.s.length → rcD c.r.length (N.put ((0 : Nat) : Int) 1 c.enc).2 i = (⟨0, false, []⟩, true) := fun i hi => by
    unfold rcD
    rw [get_is (12 * (2 + i)) (Nat.le_trans (by omega) hlen), e (2 + i) (by omega)]; rfl
  refine ⟨_, Prod.ext a1 rfl, ⟨a2.good, a2.blown, (a2.fine g5 hb).mono (by decide), hlen, h, a2.new, ?_, fun i hi => ?_, fun i hi => ?_, by rw [hph], fun i hi => by rw [hrc i hi]⟩, a2.free g8⟩
  · have h1 := e 1 (by decide)
    rw [show (12 * 1 : Nat) = 12 from rfl] at h1
    rw [hph, h1]; exact ⟨Nat.le_refl _, by decide⟩
  · rw [e (2 + i) (by omega), hrc i hi]; exact ⟨Nat.le_refl _, by decide⟩
  · by_cases hi0 : i = 0
    · subst hi0; exact a2.raw (g6 0)
    · unfold rawOk
      rw [e i hi0]
      have en : ∀ q, (q = 12 * i ∨ q = 12 * i + 6) → numAt (N.put ((0 : Nat) : Int) 1 c.enc).2 q = 0 := fun q hq => by
        have : numAt (N.put ((0 : Nat) : Int) 1 c.enc).2 q = numAt N q := by
          unfold numAt
          rw [a2.far _ (by rcases hq with rfl | rfl <;> omega)]
        rw [this, g7]
      rw [en _ (.inl rfl), en _ (.inr rfl)]
      exact ⟨Nat.le_refl _, Nat.le_refl _, .inl rfl⟩

theorem StInv.madeN (n : Nat) (c : StC) (h : c.may) (hn : 12 * (2 + c.s.length) ≤ n) : ∃ D', (newD n).put ((0 : Nat) : Int) 1 c.enc = (0, D') ∧ StInv c D' 1 ∧ D'.left = -1 :=
  StInv.made' (newD n) c h (newD_good n) (by rw [newD_len]; exact hn) (newD_newest n) (newD_room n) (newD_fine n) (newD_raw n) (newD_numAt n) rfl
theorem StInv.made (c : StC) (h : c.may) : ∃ D', (newD 200).put ((0 : Nat) : Int) 1 c.enc = (0, D') ∧ StInv c D' 1 ∧ D'.left = -1 :=
  StInv.madeN 200 c h (by have := h.s; omega)

end Go.Proofs.YtggjhbpggddjmaaGreat

/- A copy of a disk; what a put leaves of a disk; conditions: those typed. -/
namespace Go.Proofs.YtggjhbpggddjmaaGreat
open Go.RowKit
set_option linter.unusedVariables false

theorem put_far (D : Dsk) (p m : Nat) (b : List UInt8) (x : Nat) (hx : x < p ∨ p + 12 ≤ x) : secAt (D.put (p : Int) m b).2 x = secAt D x := by
  have hto := newestW_to D p
  have hs : b.length ≤ 320 → secsOf b ≤ 5 := fun h => by unfold secsOf; omega
  unfold Dsk.put
  split
  · rfl
  · split
    · rfl
    · rename_i h3
      have hs5 := hs (by omega)
      rw [show ((p : Int)).toNat = p from rfl]
      split
      · rfl
      · split
        · exact wrs_far _ _ _ _ _ (by rcases hto with h | h <;> rw [h] <;> omega)
        · split <;> (dsimp only; rw [write_far _ _ _ _ (by rcases hto with h | h <;> rw [h] <;> omega)]; exact wrs_far _ _ _ _ _ (by rcases hto with h | h <;> rw [h] <;> omega))
theorem put_len (D : Dsk) (p m : Nat) (b : List UInt8) : (D.put (p : Int) m b).2.secs.length = D.secs.length := by
  unfold Dsk.put
  split
  · rfl
  · split
    · rfl
    · split
      · rfl
      · split
        · exact wrs_len _ _ _ _
        · split <;> (dsimp only; rw [Dsk.write_len]; exact wrs_len _ _ _ _)
theorem put_fine {D : Dsk} {k : Int} (h : D.fine k) (p m : Nat) (b : List UInt8) : (D.put (p : Int) m b).2.fine (k + 6) := by
  unfold Dsk.put
  split
  · exact h.mono (by omega)
  · split
    · exact h.mono (by omega)
    · rename_i h3
      have hs5 : secsOf b ≤ 5 := by unfold secsOf; omega
      split
      · exact h.mono (by omega)
      · split
        · exact (wrs_fine h _ _ _).mono (by omega)
        · split <;> exact ((wrs_fine h _ _ _).write _ _).mono (by omega)

/-- Three slots, of which the first i have got a record. -/
def copyD (D : Dsk) : Dsk := ⟨D.secs, -1, false, 0⟩
theorem copyD_sec (D : Dsk) (x : Nat) : secAt (copyD D) x = secAt D x := rfl
theorem copyD_newest (D : Dsk) (p : Nat) : newestW (copyD D) p = newestW D p := newestW_same p (fun _ _ => rfl)
theorem copy_disk' (bd bl : Nat) (D : Dsk) (w : World) (h : IsDisk w bd bl D) :
    Calls Tryz.prog 19 #[.pointer (some ⟨bd, 0, none⟩)] w fun e w' => ∃ cd cl, e = .returned (.tuple #[.pointer (some ⟨cd, 0, none⟩), .int .i64 0]) ∧ Below w.heap.size w w' ∧ w.heap.size ≤ cd ∧ w.heap.size ≤ cl ∧ IsDisk w' cd cl (copyD D) := copy_disk bd bl D w h

end Go.Proofs.YtggjhbpggddjmaaGreat

/- What a copy of a store's disk keeps, whatever was under way when the disk let nothing more be; plain Lean; no condition but those typed. -/
namespace Go.Proofs.YtggjhbpggddjmaaGreat
open Go.RowKit
set_option linter.unusedVariables false

theorem torn_num {D D' : Dsk} (p : Nat) (hfar : ∀ x, x < (newestW D p).2 ∨ (newestW D p).2 + 5 ≤ x → secAt D' x = secAt D x) : ∀ q, (q = p ∨ q = p + 6) → numAt D' q = numAt D q := fun q hq => by
  unfold numAt
  rw [hfar _ (by rcases newestW_to D p with h | h <;> rw [h] <;> omega)]
theorem torn_same {D D' : Dsk} (p : Nat) (hraw : rawOk D p) (hfar : ∀ x, x < (newestW D p).2 ∨ (newestW D p).2 + 5 ≤ x → secAt D' x = secAt D x) : newestW D' p = newestW D p := by
  obtain ⟨r1, r2, r3⟩ := hraw
  have hnum' := torn_num p hfar
  have hp0 := place_num D' p
  have hp6 := place_num D' (p + 6)
  rw [hnum' p (.inl rfl)] at hp0
  rw [hnum' (p + 6) (.inr rfl)] at hp6
  by_cases h1 : (place D p).1 < (place D (p + 6)).1
  · have hn : newestW D p = (place D (p + 6), p) := if_pos h1
    rw [hn] at r1 r2 r3 hfar ⊢
    dsimp only at r1 r2 r3 hfar ⊢
    have e6 := place_same (D := D) (D' := D') (p + 6) (fun i hi => hfar _ (by omega))
    have : (place D' p).1 < (place D' (p + 6)).1 := by rw [e6]; omega
    unfold newestW
    rw [if_pos this, e6]
  · by_cases h2 : 0 < (place D p).1
    · have hn : newestW D p = (place D p, p + 6) := by unfold newestW; rw [if_neg h1, if_pos h2]
      rw [hn] at r1 r2 r3 hfar ⊢
      dsimp only at r1 r2 r3 hfar ⊢
      have e0 := place_same (D := D) (D' := D') p (fun i hi => hfar _ (by omega))
      unfold newestW
      rw [e0, if_neg (by omega), if_pos h2]
    · have hn : newestW D p = ((0, []), p) := by unfold newestW; rw [if_neg h1, if_neg h2]
      rw [hn] at r1 r2 r3 hfar ⊢
      dsimp only at r1 r2 r3 hfar ⊢
      unfold newestW
      rw [if_neg (by omega), if_neg (by omega)]

/-- Whatever was torn in one slot: a copy keeps all that stood. -/
theorem StInv.torn {c : StC} {D : Dsk} {j : Nat} (h : StInv c D j) (D' : Dsk) (hg : D'.good) (hlen : D'.secs.length = D.secs.length) (i : Nat) (hi : i ≤ 1 + c.s.length)
    (hfar : ∀ x, x < (newestW D (12 * i)).2 ∨ (newestW D (12 * i)).2 + 5 ≤ x → secAt D' x = secAt D x) :
    StInv c (copyD D') j ∧ phD c.s.length (copyD D') = phD c.s.length D ∧ ∀ k, k < c.s.length → rcD c.r.length (copyD D') k = rcD c.r.length D k := by
  have hto := newestW_to D (12 * i)
  have e : ∀ k, k ≤ 1 + c.s.length → newestW (copyD D') (12 * k) = newestW D (12 * k) := fun k hk => by
    rw [copyD_newest]
    by_cases hki : k = i
    · subst hki; exact torn_same (12 * k) (h.raw k hk) hfar
    · exact newestW_same (12 * k) (fun x hx => hfar _ (by omega))
  have en : ∀ k, k ≤ 1 + c.s.length → ∀ q, (q = 12 * k ∨ q = 12 * k + 6) → numAt (copyD D') q = numAt D q := fun k hk q hq => by
    by_cases hki : k = i
    · subst hki; exact torn_num (12 * k) hfar q hq
    · show numAt D' q = numAt D q
      unfold numAt
      rw [hfar _ (by rcases hq with rfl | rfl <;> omega)]
  have h8 := h.n8
  have hL : 12 * (2 + c.s.length) ≤ (copyD D').secs.length := by show 12 * (2 + c.s.length) ≤ D'.secs.length; rw [hlen]; exact h.len
  have ph : phD c.s.length (copyD D') = phD c.s.length D := by
    have g := get_is (D := copyD D') (12 * 1) (by omega)
    rw [h.ph_is]
    unfold phD
    rw [show (12 * 1 : Nat) = 12 from rfl] at g
    rw [g, show (12 : Nat) = 12 * 1 from rfl, e 1 (by omega)]
  have rc : ∀ k, k < c.s.length → rcD c.r.length (copyD D') k = rcD c.r.length D k := fun k hk => by
    rw [h.rc_is k hk]
    unfold rcD
    rw [get_is (D := copyD D') (12 * (2 + k)) (by omega), e (2 + k) (by omega)]
  refine ⟨⟨hg, rfl, ⟨by show (0 : Int) ≤ 0; decide, by show (0 : Int) ≤ _; omega, by show (-1 : Int) ≤ _; decide⟩, hL, h.may, ?_, ?_, fun k hk => ?_, fun k hk => ?_, by rw [ph]; exact h.ph, fun k hk => by rw [rc k hk]; exact h.rc k hk⟩, ph, rc⟩
  · have := e 0 (by omega)
    rw [Nat.mul_zero] at this
    rw [this]; exact h.cfg
  · rw [ph, show (12 : Nat) = 12 * 1 from rfl, e 1 (by omega)]; exact h.num
  · rw [rc k hk, e (2 + k) (by omega)]; exact h.numR k hk
  · have := h.raw k hk
    unfold rawOk at this ⊢
    rw [e k hk, en k hk _ (.inl rfl), en k hk _ (.inr rfl), en k hk _ (newestW_to D (12 * k))]
    exact this
theorem StInv.copy {c : StC} {D : Dsk} {j : Nat} (h : StInv c D j) : StInv c (copyD D) j ∧ phD c.s.length (copyD D) = phD c.s.length D ∧ ∀ k, k < c.s.length → rcD c.r.length (copyD D) k = rcD c.r.length D k :=
  h.torn D h.good rfl 0 (by omega) (fun _ _ => rfl)
theorem StInv.mono {c : StC} {D : Dsk} {j : Nat} (h : StInv c D j) {m : Nat} (hm : j ≤ m) : StInv c D m :=
  ⟨h.good, h.blown, h.fine.mono (by omega), h.len, h.may, h.cfg, h.num, h.numR, h.raw, h.ph, h.rc⟩
def fuseD (D : Dsk) (n : Int) : Dsk := { D with left := n }
theorem fuse_newest (D : Dsk) (n : Int) (p : Nat) : newestW (fuseD D n) p = newestW D p := newestW_same p (fun _ _ => rfl)
theorem fuse_num (D : Dsk) (n : Int) (p : Nat) : numAt (fuseD D n) p = numAt D p := rfl
theorem fuse_get (D : Dsk) (n p : Int) : (fuseD D n).get p = D.get p := by
  unfold Dsk.get
  rw [fuse_newest]
  rfl
theorem fuse_ph (k : Nat) (D : Dsk) (n : Int) : phD k (fuseD D n) = phD k D := by unfold phD; rw [fuse_get]
theorem fuse_rc (k : Nat) (D : Dsk) (n : Int) (i : Nat) : rcD k (fuseD D n) i = rcD k D i := by unfold rcD; rw [fuse_get]
theorem StInv.fuse {c : StC} {D : Dsk} {j : Nat} (h : StInv c D j) (n : Int) (hn : n ≤ 4294967296) : StInv c (fuseD D n) j := by
  refine ⟨h.good, h.blown, ⟨h.fine.1, h.fine.2.1, hn⟩, h.len, h.may, by rw [fuse_newest]; exact h.cfg, by rw [fuse_newest, fuse_ph]; exact h.num, fun i hi => by rw [fuse_newest, fuse_rc]; exact h.numR i hi, fun i hi => ?_, by rw [fuse_ph]; exact h.ph, fun i hi => by rw [fuse_rc]; exact h.rc i hi⟩
  have := h.raw i hi
  unfold rawOk at this ⊢
  rw [fuse_newest]
  exact this

/-- What is put when the disk lets one write be at most. -/
theorem StInv.put_short {c : StC} {D : Dsk} {j : Nat} (h : StInv c D j) (k : Nat) (hl : D.left = (k : Int)) (hk : k < 2) (i : Nat) (hi0 : 1 ≤ i) (hi : i ≤ 1 + c.s.length) (hn : (newestW D (12 * i)).1.1 + 1 < 4294967296) (b : List UInt8) (hb : b.length ≤ 64) (hb0 : 1 ≤ b.length) :
    ∃ D', D.put ((12 * i : Nat) : Int) (succ32 (D.get ((12 * i : Nat) : Int)).1) b = (8, D') ∧ StInv c (copyD D') j ∧ phD c.s.length (copyD D') = phD c.s.length D ∧ ∀ k, k < c.s.length → rcD c.r.length (copyD D') k = rcD c.r.length D k := by
  have h8 := h.n8
  have hlen := h.len
  have hs : succ32 (D.get ((12 * i : Nat) : Int)).1 = (newestW D (12 * i)).1.1 + 1 := by
    rw [h.get i hi]; unfold succ32; dsimp only; omega
  rw [hs]
  obtain ⟨a1, a2, a3, a4⟩ := put_torn h.good (12 * i) ((newestW D (12 * i)).1.1 + 1) k b (by omega) (by omega) (by omega) h.blown hl (by unfold secsOf; omega)
  exact ⟨_, Prod.ext a1 rfl, h.torn _ a2 a3 i hi a4⟩

theorem encP_pos (p : Nat) (l : List Int) : 1 ≤ (encP p l).length := by unfold encP; rw [List.length_cons]; omega
theorem StR.enc_pos (x : StR) : 1 ≤ x.enc.length := by
  unfold StR.enc
  rw [List.length_append, leB_length]; omega

/-- A record set, a phase turned, with some fuse. -/
theorem StInv.set_fuse {c : StC} {D : Dsk} {j : Nat} (h : StInv c D j) (k : Nat) (hk : k < 8) (who : Int) (x : StR) (hs : x.seq < 4294967296) :
    ∃ e D', setD c.s.length c.r.length (fuseD D k) who x = (e, D') ∧ StInv c (copyD D') (j + 1) ∧ phD c.s.length (copyD D') = phD c.s.length D ∧ (∀ i, i < c.s.length → (e = 0 → (i : Int) ≠ who) → rcD c.r.length (copyD D') i = rcD c.r.length D i) ∧
      (e = 0 → 0 ≤ who ∧ who < c.s.length ∧ rcD c.r.length (copyD D') who.toNat = (x, true)) := by
  have h1 := h.fuse k (by omega)
  have key : ∀ e, e ≠ 0 → setD c.s.length c.r.length (fuseD D k) who x = (e, fuseD D k) → ∃ e D', setD c.s.length c.r.length (fuseD D k) who x = (e, D') ∧ StInv c (copyD D') (j + 1) ∧ phD c.s.length (copyD D') = phD c.s.length D ∧ (∀ i, i < c.s.length → (e = 0 → (i : Int) ≠ who) → rcD c.r.length (copyD D') i = rcD c.r.length D i) ∧
      (e = 0 → 0 ≤ who ∧ who < c.s.length ∧ rcD c.r.length (copyD D') who.toNat = (x, true)) := fun e he hq => by
    obtain ⟨a1, a2, a3⟩ := h1.copy
    exact ⟨e, _, hq, a1.mono (by omega), by rw [a2, fuse_ph], fun i hi _ => by rw [a3 i hi, fuse_rc], fun h0 => absurd h0 he⟩
  by_cases hk2 : 2 ≤ k
  · obtain ⟨e, D', q1, q2, q3, q4, q5⟩ := h1.set who x hs ⟨h1.blown, .inr (by show ((2 : Nat) : Int) ≤ (k : Int); omega)⟩
    rcases q5 with ⟨rfl, b1, b2, b3, b4, b5, b6⟩ | ⟨b1, rfl, b2⟩
    · obtain ⟨a1, a2, a3⟩ := q2.copy
      refine ⟨0, D', q1, a1, by rw [a2, q3, fuse_ph], fun i hi hw => by rw [a3 i hi, q4 i hi (hw rfl), fuse_rc], fun _ => ⟨b1, b2, ?_⟩⟩
      rw [a3 _ (by omega), b5]
    · exact key e b1 q1
  · by_cases hw : who < 0 ∨ (c.s.length : Int) ≤ who
    · exact key 1 (by decide) (if_pos hw)
    by_cases hf : fitsC c.r.length x = false
    · exact key 1 (by decide) (by unfold setD; rw [if_neg hw, if_pos hf])
    by_cases hq : x.seq ≤ (rcD c.r.length (fuseD D k) who.toNat).1.seq
    · exact key 10 (by decide) (by unfold setD; rw [if_neg hw, if_neg hf, if_pos hq])
    have hf' : fitsC c.r.length x = true := by simpa using hf
    obtain ⟨hl, hv⟩ := fitsC_bd hf'
    have hb := x.enc_len hl
    obtain ⟨D', p1, p2, p3, p4⟩ := h1.put_short k rfl (by omega) (2 + who.toNat) (by omega) (by omega) (by have := h1.numR who.toNat (by omega); omega) x.enc (by omega) x.enc_pos
    exact ⟨8, D', by unfold setD; rw [if_neg hw, if_neg hf, if_neg hq]; exact p1, p2.mono (by omega), by rw [p3, fuse_ph], fun i hi _ => by rw [p4 i hi, fuse_rc], fun h0 => absurd h0 (by decide)⟩
theorem StInv.turn_fuse {c : StC} {D : Dsk} {j : Nat} (h : StInv c D j) (k : Nat) (hk : k < 8) (q : Nat) (l : List Int) :
    ∃ e D', turnD c.s.length (fuseD D k) q l = (e, D') ∧ StInv c (copyD D') (j + 1) ∧ (∀ i, i < c.s.length → rcD c.r.length (copyD D') i = rcD c.r.length D i) ∧ phD c.s.length (copyD D') = if e = 0 then (q, l, true) else phD c.s.length D := by
  have h1 := h.fuse k (by omega)
  have key : ∀ e, e ≠ 0 → turnD c.s.length (fuseD D k) q l = (e, fuseD D k) → ∃ e D', turnD c.s.length (fuseD D k) q l = (e, D') ∧ StInv c (copyD D') (j + 1) ∧ (∀ i, i < c.s.length → rcD c.r.length (copyD D') i = rcD c.r.length D i) ∧ phD c.s.length (copyD D') = if e = 0 then (q, l, true) else phD c.s.length D := fun e he hq => by
    obtain ⟨a1, a2, a3⟩ := h1.copy
    exact ⟨e, _, hq, a1.mono (by omega), fun i hi => by rw [a3 i hi, fuse_rc], by rw [if_neg he, a2, fuse_ph]⟩
  by_cases hk2 : 2 ≤ k
  · obtain ⟨e, D', q1, q2, q3, q4⟩ := h1.turn q l ⟨h1.blown, .inr (by show ((2 : Nat) : Int) ≤ (k : Int); omega)⟩
    rcases q4 with ⟨rfl, b1, b2, b3, b4⟩ | ⟨b1, rfl, b2⟩
    · obtain ⟨a1, a2, a3⟩ := q2.copy
      exact ⟨0, D', q1, a1, fun i hi => by rw [a3 i hi, q3 i hi, fuse_rc], by rw [if_pos rfl, a2, b3]⟩
    · exact key e b1 q1
  · by_cases ht : turnsC c.s.length q l = false
    · exact key 1 (by decide) (by unfold turnD; rw [if_pos ht])
    by_cases hx : nextC (phD c.s.length (fuseD D k)).1 q = false
    · exact key 8 (by decide) (by unfold turnD; rw [if_neg ht, if_pos hx])
    have ht' : turnsC c.s.length q l = true := by simpa using ht
    obtain ⟨hq, hl, hv⟩ := turnsC_bd h.n8.2 ht'
    have hb := encP_len q l hl
    have h8 := h.n8
    obtain ⟨D', p1, p2, p3, p4⟩ := h1.put_short k rfl (by omega) 1 (by decide) (by omega) (by have := h1.num; rw [show (12 * 1 : Nat) = 12 from rfl]; omega) (encP q l) (by omega) (encP_pos q l)
    exact ⟨8, D', by unfold turnD; rw [if_neg ht, if_neg hx]; exact p1, p2.mono (by omega), fun i hi => by rw [p4 i hi, fuse_rc], by rw [if_neg (by decide), p3, fuse_ph]⟩

end Go.Proofs.YtggjhbpggddjmaaGreat
