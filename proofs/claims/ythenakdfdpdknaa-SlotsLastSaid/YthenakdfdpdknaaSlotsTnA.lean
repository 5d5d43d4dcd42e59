/- Plain facts for the statements SlotsTorn, SlotsLast; conditions: those typed. -/
import Derived.Test.YthenakdfdpdknaaSlotsApA
namespace Go.Proofs.Ythenakdfdpdknaa
open Go.RowKit
set_option linter.unusedVariables false

/-- A list of slices of bytes, its slices by functions. -/
def Ls (w : World) (la : Option Addr) (aF : Nat → Option Addr) (cF : Nat → Nat) (L : List (List UInt8)) : Prop :=
  L ≠ [] → ∃ lb lo, la = some ⟨lb, lo, none⟩ ∧ lb < w.heap.size ∧ ∀ i (h : i < L.length), w.cell? ⟨lb, lo + i, none⟩ = some (.slice (aF i) L[i].length (cF i)) ∧ IsB w (aF i) L[i].length (cF i) L[i]
theorem IsBB.ls {w : World} {a : Option Addr} {n c : Nat} {L : List (List UInt8)} (h : IsBB w 0 a n c L) : ∃ aF cF, Ls w a aF cF L := by
  obtain ⟨rfl, _, _, h4⟩ := h
  by_cases hL : L = []
  · exact ⟨fun _ => none, fun _ => 0, fun h => absurd hL h⟩
  · rcases h4 with h4 | ⟨b, off, rfl, _, hlt, hc⟩
    · exact absurd h4 hL
    · have hx : ∀ i, ∃ y : Option Addr × Nat, ∀ h : i < L.length, w.cell? ⟨b, off + i, none⟩ = some (.slice y.1 L[i].length y.2) ∧ IsB w y.1 L[i].length y.2 L[i] := fun i => by
        by_cases hi : i < L.length
        · obtain ⟨u, hu, a, n, c, rfl, hb, _⟩ := hc i hi
          obtain rfl := hb.1
          exact ⟨(a, c), fun _ => ⟨hu, hb⟩⟩
        · exact ⟨(none, 0), fun h => absurd h hi⟩
      exact ⟨fun i => (Classical.choose (hx i)).1, fun i => (Classical.choose (hx i)).2, fun _ => ⟨b, off, rfl, hlt, fun i hi => Classical.choose_spec (hx i) hi⟩⟩
theorem Ls.touch {S : Nat → Prop} {w w' : World} {la : Option Addr} {aF : Nat → Option Addr} {cF : Nat → Nat} {L : List (List UInt8)} (h : Ls w la aF cF L) (ht : Touch S w w') (B : Nat) (hB : ∀ k, S k → B ≤ k) (hl : ∀ x off, la = some ⟨x, off, none⟩ → L ≠ [] → x < B) (hs : ∀ i (hi : i < L.length), ∀ x off, aF i = some ⟨x, off, none⟩ → L[i] ≠ [] → x < B) : Ls w' la aF cF L := fun hn => by
  obtain ⟨lb, lo, rfl, hlt, hc⟩ := h hn
  refine ⟨lb, lo, rfl, Nat.lt_of_lt_of_le hlt ht.size, fun i hi => ⟨ht.cell (hc i hi).1 (fun e => by have h1 := hB lb e; have h2 := hl lb lo rfl hn; omega), (hc i hi).2.touch ht (fun x off ha hl e => by have h1 := hB x e; have h2 := hs i hi x off ha hl; omega)⟩⟩
theorem Ls.below {w w' : World} {la : Option Addr} {aF : Nat → Option Addr} {cF : Nat → Nat} {L : List (List UInt8)} (h : Ls w la aF cF L) (hb : Below w.heap.size w w') : Ls w' la aF cF L := fun hn => by
  obtain ⟨lb, lo, rfl, hlt, hc⟩ := h hn
  exact ⟨lb, lo, rfl, Nat.lt_of_lt_of_le hlt hb.size, fun i hi => ⟨(hb.cell (p := ⟨lb, lo + i, none⟩) hlt).trans (hc i hi).1, (hc i hi).2.below hb⟩⟩
/-- All that the list holds lies below B. -/
def LsLow (B : Nat) (la : Option Addr) (aF : Nat → Option Addr) (L : List (List UInt8)) : Prop :=
  (∀ x off, la = some ⟨x, off, none⟩ → L ≠ [] → x < B) ∧ ∀ i (hi : i < L.length), ∀ x off, aF i = some ⟨x, off, none⟩ → L[i] ≠ [] → x < B
theorem Ls.low {w : World} {la : Option Addr} {aF : Nat → Option Addr} {cF : Nat → Nat} {L : List (List UInt8)} (h : Ls w la aF cF L) : LsLow w.heap.size la aF L := by
  refine ⟨fun x off ha hn => ?_, fun i hi x off ha hl => ?_⟩
  · obtain ⟨lb, lo, h1, hlt, _⟩ := h hn
    rw [ha] at h1; cases h1; exact hlt
  · obtain ⟨lb, lo, h1, hlt, hc⟩ := h (fun e => by rw [e] at hi; simp at hi)
    exact (hc i hi).2.blk x off ha hl

/-- The last of the first j. -/
def lastL (L : List (List UInt8)) : Nat → List UInt8
  | 0 => []
  | j + 1 => L.getD j []
structure TnSt (L : List (List UInt8)) (D : Dsk) (j : Nat) : Prop where
  good : D.good
  blown : D.blown = false
  left : D.left = -1
  fine : D.fine (6 * j)
  len : D.secs.length = 12
  new : (newestW D 0).1 = (j, lastL L j)
  raw : rawOk D 0
theorem TnSt.start (L : List (List UInt8)) : TnSt L (newD 12) 0 :=
  ⟨newD_good 12, rfl, rfl, newD_fine 12, newD_len 12, by rw [newD_newest]; rfl, newD_raw 12 0⟩
theorem TnSt.step {L : List (List UInt8)} {D : Dsk} {j : Nat} (h : TnSt L D j) (hj : j < L.length) (hjs : j < 1000) (hl : L[j].length ≤ 320) : ∃ D', D.put ((0 : Nat) : Int) (j + 1) L[j] = (0, D') ∧ TnSt L D' (j + 1) := by
  obtain ⟨h1, h2⟩ := put_full h.good 0 (j + 1) L[j] (by rw [h.len]; decide) hl (by omega) (by rw [h.new]; show j < j + 1; omega) (free_room h.blown h.left _)
  refine ⟨_, Prod.ext h1 rfl, h2.good, h2.blown, h2.free h.left, (h2.fine h.fine hl).mono (by push_cast; omega), h2.len.trans h.len, ?_, h2.raw h.raw⟩
  rw [h2.new]
  show (j + 1, L[j]) = (j + 1, L.getD j [])
  simp [hj]
theorem newestW_left (D : Dsk) (n : Int) (p : Nat) : newestW ({ D with left := n } : Dsk) p = newestW D p := newestW_same p (fun _ _ => rfl)
/-- With fuse enough. -/
theorem TnSt.whole {L : List (List UInt8)} {D : Dsk} {j : Nat} (h : TnSt L D j) (hj : j < 1000) (m : List UInt8) (hm : m.length ≤ 320) (nf : Nat) (hn : secsOf m + 1 ≤ nf) : ∃ D', ({ D with left := (nf : Int) } : Dsk).put ((0 : Nat) : Int) (j + 1) m = (0, D') ∧ (copyD D').get ((0 : Nat) : Int) = (j + 1, m, 0) := by
  obtain ⟨h1, h2⟩ := put_full (D := { D with left := (nf : Int) }) h.good 0 (j + 1) m (by show 0 + 12 ≤ D.secs.length; rw [h.len]; decide) hm (by omega) (by rw [newestW_left, h.new]; show j < j + 1; omega) ⟨h.blown, .inr (by show ((secsOf m + 1 : Nat) : Int) ≤ (nf : Int); omega)⟩
  refine ⟨_, Prod.ext h1 rfl, ?_⟩
  rw [get_is 0 (by show 0 + 12 ≤ ((({ D with left := (nf : Int) } : Dsk).put ((0 : Nat) : Int) (j + 1) m).2).secs.length; rw [put_len]; show 12 ≤ D.secs.length; rw [h.len]; decide), copyD_newest, h2.new]
/-- With too little of it. -/
theorem TnSt.torn {L : List (List UInt8)} {D : Dsk} {j : Nat} (h : TnSt L D j) (hj : j < 1000) (m : List UInt8) (hm : m.length ≤ 320) (nf : Nat) (hn : nf ≤ secsOf m) : ∃ D', ({ D with left := (nf : Int) } : Dsk).put ((0 : Nat) : Int) (j + 1) m = (8, D') ∧ (copyD D').get ((0 : Nat) : Int) = (j, lastL L j, 0) ∧ ((copyD D').put ((0 : Nat) : Int) (j + 1) m).1 = 0 := by
  obtain ⟨h1, h2, h3, h4⟩ := put_torn (D := { D with left := (nf : Int) }) h.good 0 (j + 1) nf m (by show 0 + 12 ≤ D.secs.length; rw [h.len]; decide) hm (by rw [newestW_left, h.new]; show j < j + 1; omega) h.blown rfl hn
  have hraw : rawOk ({ D with left := (nf : Int) } : Dsk) 0 := by
    have := h.raw
    unfold rawOk at this ⊢
    rw [newestW_left]
    exact this
  have hnew := torn_newest (D := { D with left := (nf : Int) }) 0 hraw h4
  have hll := newestW_left D (nf : Int) 0
  rw [hll, h.new] at hnew
  have hlen : (copyD ((({ D with left := (nf : Int) } : Dsk).put ((0 : Nat) : Int) (j + 1) m).2)).secs.length = 12 := h3.trans h.len
  refine ⟨_, Prod.ext h1 rfl, ?_, ?_⟩
  · rw [get_is 0 (by rw [hlen]; decide), copyD_newest, hnew]
  · exact (put_full (D := copyD _) h2 0 (j + 1) m (by rw [hlen]; decide) hm (by omega) (by rw [copyD_newest, hnew]; show j < j + 1; omega) ⟨rfl, .inl (by show (-1 : Int) < 0; decide)⟩).1

end Go.Proofs.Ythenakdfdpdknaa
