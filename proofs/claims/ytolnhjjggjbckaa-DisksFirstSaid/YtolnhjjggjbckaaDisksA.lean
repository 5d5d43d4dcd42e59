/- Lists of lists of bytes; the statements helpers all and SameByteLists; conditions: those typed. -/
import Derived.Test.YtolnhjjggjbckaaDisksC
import Derived.Test.YtolnhjjggjbckaaSameB
namespace Go.Proofs.Ytolnhjjggjbckaa
open Go.RowKit
set_option linter.unusedVariables false

theorem infoBs : (Try.prog.info? 22).map (fun i => (i.zero, i.size, i.bytes)) = some (some (.slice none 0 0), 1, 24) := by kernel_rfl
theorem rowBs : RowTy Try.prog 43 22 1 24 (.slice none 0 0) := ⟨Try.underlying43, infoBs, rfl, by decide⟩

/-- A value that is a slice of bytes, its memory from B on. -/
def ReadAs (w : World) (B : Nat) (u : Value) (l : List UInt8) : Prop := ∃ a n c, u = .slice a n c ∧ IsB w a n c l ∧ ∀ b off, a = some ⟨b, off, none⟩ → l ≠ [] → B ≤ b
theorem ReadAs.touch {S : Nat → Prop} {w w' : World} {B : Nat} {u : Value} {l : List UInt8} (h : ReadAs w B u l) (ht : Touch S w w') (hs : ∀ k, B ≤ k → ¬ S k) : ReadAs w' B u l := by
  obtain ⟨a, n, c, rfl, hb, hB⟩ := h
  exact ⟨a, n, c, rfl, hb.touch ht (fun b off ha hl => hs b (hB b off ha hl)), hB⟩
theorem ReadAs.below {w w' : World} {B : Nat} {u : Value} {l : List UInt8} (h : ReadAs w B u l) (hb : Below w.heap.size w w') : ReadAs w' B u l := h.touch (Touch.of_below (S := fun _ => False) hb) (fun _ _ => id)

/-- A slice of slices of bytes, its memory from B on. -/
def IsBB (w : World) (B : Nat) (a : Option Addr) (n c : Nat) (L : List (List UInt8)) : Prop :=
  n = L.length ∧ L.length ≤ c ∧ c ≤ maxLen ∧ (L = [] ∨ ∃ b off, a = some ⟨b, off, none⟩ ∧ B ≤ b ∧ b < w.heap.size ∧ ∀ i (h : i < L.length), ∃ u, w.cell? ⟨b, off + i, none⟩ = some u ∧ ReadAs w B u L[i])
theorem IsBB.touch {S : Nat → Prop} {w w' : World} {B : Nat} {a : Option Addr} {n c : Nat} {L : List (List UInt8)} (h : IsBB w B a n c L) (ht : Touch S w w') (hs : ∀ k, B ≤ k → ¬ S k) : IsBB w' B a n c L := by
  obtain ⟨h1, h2, h3, h4 | ⟨b, off, rfl, hB, hlt, hc⟩⟩ := h
  · exact ⟨h1, h2, h3, .inl h4⟩
  · refine ⟨h1, h2, h3, .inr ⟨b, off, rfl, hB, Nat.lt_of_lt_of_le hlt ht.size, fun i hi => ?_⟩⟩
    obtain ⟨u, hu, hr⟩ := hc i hi
    exact ⟨u, ht.cell hu (hs b hB), hr.touch ht hs⟩
theorem IsBB.below {w w' : World} {B : Nat} {a : Option Addr} {n c : Nat} {L : List (List UInt8)} (h : IsBB w B a n c L) (hb : Below w.heap.size w w') : IsBB w' B a n c L := h.touch (Touch.of_below (S := fun _ => False) hb) (fun _ _ => id)

theorem owns_touch {S : Nat → Prop} {w w' : World} {B e sz n : Nat} {v : Value} {xs : List Value} (h : w.ownsRow B e sz v n xs) (ht : Touch S w w') (hs : ∀ k, v.ownBlock = some k → ¬ S k) : w'.ownsRow B e sz v n xs := by
  refine ⟨h.1, ?_⟩
  rcases h.2 with h0 | ⟨g, cap, cur, hv, hb, hg, h3⟩
  · exact .inl h0
  · exact .inr ⟨g, cap, cur, hv, hb, ht.heap hg (hs g (by rw [hv]; rfl)), h3⟩
theorem owns_below {w w' : World} {B e sz n : Nat} {v : Value} {xs : List Value} (h : w.ownsRow B e sz v n xs) (hb : Below w.heap.size w w') : w'.ownsRow B e sz v n xs := owns_touch h (Touch.of_below (S := fun _ => False) hb) (fun _ _ => id)
theorem owns_block {w : World} {B e sz n : Nat} {v : Value} {xs : List Value} (h : w.ownsRow B e sz v n xs) {k : Nat} (hk : v.ownBlock = some k) : ∃ cur, w.heap[k]? = some (.cells cur e) := by
  rcases h.2 with ⟨rfl, _⟩ | ⟨g, cap, cur, rfl, hb, hg, h3⟩
  · cases hk
  · cases hk; exact ⟨cur, hg⟩
theorem RowB.touch {S : Nat → Prop} {w w' : World} {g : Nat} {l : List UInt8} (h : RowB w g l) (ht : Touch S w w') (hs : ¬ S g) : RowB w' g l := ht.heap h hs
theorem RowB.ne {w : World} {g k : Nat} {l : List UInt8} (h : RowB w g l) {cur : Array Value} (hk : w.heap[k]? = some (.cells cur 22)) : k ≠ g := by
  intro e; subst e
  have := hk.symm.trans h
  simp at this

/-- The first k sectors, each a fresh row, are what xs points to. -/
def Told (w : World) (B : Nat) (xs : List Value) (L : List (List UInt8)) (k : Nat) : Prop := ∀ j, j < k → (hj : j < L.length) → ∃ g, B ≤ g ∧ xs[j]? = some (.slice (some ⟨g, 0, none⟩) 64 64) ∧ RowB w g L[j]

set_option maxHeartbeats 1000000 in
theorem all_disk (bd bl : Nat) (D : Dsk) (w : World) (h : IsDisk w bd bl D) :
    Calls Try.prog 17 #[.pointer (some ⟨bd, 0, none⟩)] w fun e w' => ∃ a c, e = .returned (.slice a D.secs.length c) ∧ Below w.heap.size w w' ∧ IsBB w' w.heap.size a D.secs.length c D.secs := by
  have hmost := h.most
  go_enter Try.func17, Try.ntmps17
  go_wp2
  go_loopw [3, 4] (fun v i wr => ∃ (k : Nat) (xs : List Value), k ≤ D.secs.length ∧ i = .int .i64 k ∧ wr.ownsRow w.heap.size 22 1 v k xs ∧ Told wr w.heap.size xs D.secs k ∧ Below w.heap.size w wr) (fun _ i _ => D.secs.length - (intOf i).toNat)
  case atStart => exact ⟨0, [], Nat.zero_le _, rfl, World.ownsRow_nil _ _ _ _, fun j hj => by omega, Below.refl _ _⟩
  case round =>
    obtain ⟨k, xs, hk, rfl, hown, hxs, hbel⟩ := hrel
    obtain ⟨bo, cc, rfl⟩ := owns_shape hown
    have hdr := h.touch (Touch.of_below (S := fun _ => False) hbel) id id
    have hsz := hbel.size
    go_wp2_with fail
    refine (len_disk bd bl D wr hdr).mono ?_; rintro e w1 ⟨rfl, rfl⟩
    by_cases hlt : k < D.secs.length
    · go_wp2_with fail
      refine (read_good bd bl D k wr hdr hlt).mono ?_; rintro e w1 ⟨g, rfl, hb1, hg1, hrow1⟩
      have hown1 := owns_below hown hb1
      have hs1 := hb1.size
      go_wp2_with (at_builtin; refine wpList_append_any rowBs rfl (.tmp 19) (.tmp 21) rfl w.heap.size _ k xs rfl (hown1.alloc _) (some ⟨w1.heap.size, 0, none⟩) 1 1 [.slice (some ⟨g, 0, none⟩) 64 64] rfl rfl (At.one _ _ _) (one_cell _ rfl) (by unfold maxLen; omega) (by omega) (by simp; omega) ?_; intro b2 c2 w2 hown2 hg2 hat2)
      have hs2 := hg2.size
      have hbel2 : Below w.heap.size w w2 := ((hbel.trans (hb1.mono hsz)).alloc (Nat.le_trans hsz hs1) _).grown hg2 (by simp; omega) (fun j hj => (hown1.lt j hj).1)
      have ht2 : Touch (fun z => (Value.slice bo k cc).ownBlock = some z) w1 w2 := ((Touch.refl _ w1).alloc _).grown hg2 (fun z hz => .inl hz)
      have hlen := hown1.1
      go_roundw
      case rel =>
        refine ⟨k + 1, _, by omega, by go_num, hown2, fun j hj hj' => ?_, hbel2⟩
        by_cases hjk : j < k
        · obtain ⟨g', hg', hx', hr'⟩ := hxs j hjk hj'
          have hr1 := hr'.touch (Touch.of_below (S := fun _ => False) hb1) id
          refine ⟨g', hg', by rw [List.getElem?_append_left (by omega)]; exact hx', hr1.touch ht2 (fun e => ?_)⟩
          obtain ⟨cur, hcur⟩ := owns_block hown1 e
          exact hr1.ne hcur rfl
        · obtain rfl : j = k := by omega
          refine ⟨g, by omega, by rw [List.getElem?_append_right (by omega)]; simp [hlen], hrow1.touch ht2 (fun e => ?_)⟩
          obtain ⟨cur, hcur⟩ := owns_block hown1 e
          exact hrow1.ne hcur rfl
      case measure => simp [intOf]; omega
    · have hkk : k = D.secs.length := by omega
      subst hkk
      go_wp2_with fail
      go_ret
      refine ⟨bo, cc, rfl, hbel, rfl, ?_⟩
      rcases hown.2 with ⟨hv, h0⟩ | ⟨g, cap, cur, hv, hb, hg, hnc, hcm, hcs, htk⟩
      · have := h.pos; omega
      · cases hv
        refine ⟨hnc, hcm, .inr ⟨g, 0, rfl, hb, lt_of_heap hg, fun i hi => ?_⟩⟩
        obtain ⟨g', hg', hx', hr'⟩ := hxs i hi hi
        rw [Nat.zero_add]
        exact ⟨_, cells_of_owns hown i _ hx', _, _, _, rfl, by have := hr'.isB (by rw [h.secs _ (List.getElem_mem hi)]; decide); rwa [h.secs _ (List.getElem_mem hi)] at this, fun b off hb' _ => by cases hb'; exact hg'⟩

set_option maxHeartbeats 1000000 in
theorem sameBs_some (a b ao bo c d A B : Nat) (l m : List (List UInt8)) (w : World) (hlen : l.length ≤ 9223372036854775807) (hlm : l.length = m.length)
    (hl : ∀ i (h : i < l.length), ∃ u, w.cell? ⟨a, ao + i, none⟩ = some u ∧ ReadAs w A u l[i]) (hm : ∀ i (h : i < m.length), ∃ u, w.cell? ⟨b, bo + i, none⟩ = some u ∧ ReadAs w B u m[i]) :
    Calls Try.prog 16 #[.slice (some ⟨a, ao, none⟩) l.length c, .slice (some ⟨b, bo, none⟩) l.length d] w fun e w' => e = .returned (.bool (decide (l = m))) ∧ ∃ j, w' = w.drewN j := by
  go_enter Try.func16, Try.ntmps16
  go_wp2
  go_loopw [5] (fun i wr => ∃ k j : Nat, k ≤ l.length ∧ i = .int .i64 k ∧ wr = w.drewN j ∧ l.take k = m.take k) (fun i _ => l.length - (intOf i).toNat)
  case atStart => exact ⟨0, 0, Nat.zero_le _, rfl, rfl, rfl⟩
  case round =>
    obtain ⟨k, j, hk, rfl, hwr, hs⟩ := hrel
    have HS := Lib.hid hs
    clear hs
    have HW := Lib.hid hwr
    have hbw : Below w.heap.size w wr := by rw [hwr]; exact below_drewN (Below.refl _ _) _
    have HBW := Lib.hid hbw
    have HLM := Lib.hid hlm
    by_cases hlt : k < l.length
    · have hkm : k < m.length := by rw [← HLM.out]; exact hlt
      obtain ⟨u, h1, a1, n1, c1, rfl, r1, _⟩ := hl k hlt
      obtain ⟨u, h2, a2, n2, c2, rfl, r2, _⟩ := hm k hkm
      have s1 := r1.below hbw
      have s2 := r2.below hbw
      rw [← World.cell?_drewN w j, ← hwr] at h1 h2
      clear hl hm hlm hwr hbw r1 r2
      have R1 := Lib.hid s1
      have R2 := Lib.hid s2
      clear s1 s2
      by_cases he : l[k] = m[k]
      · have HE := Lib.hid he
        have hn : decide (l[k] = m[k]) = true := decide_eq_true he
        clear he
        go_wp2_with fail
        go_quiet ((go_at_call 18; exact Calls.quiet_of (sameB_any a1 a2 n1 n2 c1 c2 l[k] m[k] _ (R1.out.below (below_drewN (Below.refl _ _) _)) (R2.out.below (below_drewN (Below.refl _ _) _)))))
        go_wp2_with fail
        go_roundw
        case rel => exact ⟨k + 1, j + nq, by omega, by go_num, by rw [HW.out]; simp, by rw [List.take_succ_eq_append_getElem hlt, List.take_succ_eq_append_getElem hkm, HS.out, HE.out]⟩
        case measure => simp [intOf]; omega
      · have HE := Lib.hid he
        have hn : decide (l[k] = m[k]) = false := decide_eq_false he
        clear he
        go_wp2_with fail
        go_quiet ((go_at_call 18; exact Calls.quiet_of (sameB_any a1 a2 n1 n2 c1 c2 l[k] m[k] _ (R1.out.below (below_drewN (Below.refl _ _) _)) (R2.out.below (below_drewN (Below.refl _ _) _)))))
        go_wp2_with fail
        go_ret
        refine ⟨?_, j + nq, by rw [HW.out]; simp⟩
        have hne : decide (l = m) = false := decide_eq_false (fun h => HE.out (by subst h; rfl))
        rw [hne]; rfl
    · have hkk : k = l.length := by omega
      subst hkk
      clear hl hm hlm hwr hbw
      have hlm' : l = m := by
        have h := HS.out
        rw [List.take_length, HLM.out, List.take_length] at h
        exact h
      have HQ := Lib.hid hlm'
      clear hlm'
      go_wp2
      go_ret
      refine ⟨?_, _, HW.out⟩
      rw [decide_eq_true HQ.out]; rfl

theorem sameBs_apart (a b : Option Addr) (n m c d : Nat) (w : World) (hnm : n ≠ m) :
    Calls Try.prog 16 #[.slice a n c, .slice b m d] w fun e w' => e = .returned (.bool false) ∧ ∃ j, w' = w.drewN j := by
  have hne : ((n : Int) != (m : Int)) = true := by rw [bne_iff_ne]; omega
  go_enter Try.func16, Try.ntmps16
  go_wp2
  go_ret
  exact ⟨rfl, 0, rfl⟩

theorem sameBs_nil (a b : Option Addr) (c d : Nat) (w : World) :
    Calls Try.prog 16 #[.slice a 0 c, .slice b 0 d] w fun e w' => e = .returned (.bool true) ∧ ∃ j, w' = w.drewN j := by
  go_enter Try.func16, Try.ntmps16
  go_wp2
  go_loop [5] (fun i => i = .int .i64 0) (fun _ => 0)
  case atStart => rfl
  case round =>
    obtain rfl := hrel
    go_wp2
    go_ret
    exact ⟨rfl, 0, rfl⟩

theorem sameBs_any (a b : Option Addr) (A B n m c d : Nat) (l k : List (List UInt8)) (w : World) (hl : IsBB w A a n c l) (hk : IsBB w B b m d k) :
    Calls Try.prog 16 #[.slice a n c, .slice b m d] w fun e w' => e = .returned (.bool (decide (l = k))) ∧ ∃ j, w' = w.drewN j := by
  by_cases hnm : n = m
  · obtain ⟨rfl, h1, h2, h3⟩ := hl
    obtain ⟨rfl, k1, k2, k3⟩ := hk
    rcases h3 with rfl | ⟨b1, o1, rfl, hb1, hlt1, hc1⟩
    · obtain rfl : k = [] := List.eq_nil_of_length_eq_zero hnm.symm
      exact sameBs_nil a b c d w
    · rcases k3 with rfl | ⟨b2, o2, rfl, hb2, hlt2, hc2⟩
      · obtain rfl : l = [] := List.eq_nil_of_length_eq_zero hnm
        exact sameBs_nil _ b c d w
      · rw [← hnm]
        exact sameBs_some b1 b2 o1 o2 c d A B l k w (by unfold maxLen at h2; omega) hnm hc1 hc2
  · have hne : decide (l = k) = false := decide_eq_false (fun h => hnm (by rw [hl.1, hk.1, h]))
    rw [hne]
    exact sameBs_apart a b n m c d w hnm

end Go.Proofs.Ytolnhjjggjbckaa
