/- A config, lists of bytes, ints in memory, by a property of their blocks; conditions: those typed. -/
import Derived.Test.YtggjhbpggddjmaaGreatGStN2
import Derived.Test.YtggjhbpggddjmaaGreatStV
import Derived.Test.YtggjhbpggddjmaaGreatGSlotsGet
import Derived.Test.YtggjhbpggddjmaaGreatGOpened
namespace Go.Proofs.YtggjhbpggddjmaaGreat
open Go.RowKit
set_option linter.unusedVariables false
set_option linter.unusedSimpArgs false

/-- Bytes, ints, whose block has a property. -/
def IsBp (w : World) (P : Nat → Prop) (a : Option Addr) (n c : Nat) (l : List UInt8) : Prop := IsB w a n c l ∧ ∀ b off, a = some ⟨b, off, none⟩ → l ≠ [] → P b
def IsIp (w : World) (P : Nat → Prop) (a : Option Addr) (n c : Nat) (l : List Int) : Prop := IsI w a n c l ∧ ∀ b off, a = some ⟨b, off, none⟩ → l ≠ [] → P b
theorem IsBp.touch {S P : Nat → Prop} {w w' : World} {a : Option Addr} {n c : Nat} {l : List UInt8} (h : IsBp w P a n c l) (ht : Touch S w w') (hs : ∀ k, P k → ¬ S k) : IsBp w' P a n c l :=
  ⟨h.1.touch ht (fun b off ha hl => hs b (h.2 b off ha hl)), h.2⟩
theorem IsIp.touch {S P : Nat → Prop} {w w' : World} {a : Option Addr} {n c : Nat} {l : List Int} (h : IsIp w P a n c l) (ht : Touch S w w') (hs : ∀ k, P k → ¬ S k) : IsIp w' P a n c l :=
  ⟨h.1.touch ht (fun b off ha hl => hs b (h.2 b off ha hl)), h.2⟩
theorem IsBp.below {P : Nat → Prop} {w w' : World} {a : Option Addr} {n c : Nat} {l : List UInt8} (h : IsBp w P a n c l) (hb : Below w.heap.size w w') : IsBp w' P a n c l := ⟨h.1.below hb, h.2⟩
theorem IsIp.below {P : Nat → Prop} {w w' : World} {a : Option Addr} {n c : Nat} {l : List Int} (h : IsIp w P a n c l) (hb : Below w.heap.size w w') : IsIp w' P a n c l := ⟨h.1.below hb, h.2⟩
theorem IsBp.imp {P Q : Nat → Prop} {w : World} {a : Option Addr} {n c : Nat} {l : List UInt8} (h : IsBp w P a n c l) (hq : ∀ k, P k → Q k) : IsBp w Q a n c l := ⟨h.1, fun b off ha hl => hq b (h.2 b off ha hl)⟩
theorem IsIp.imp {P Q : Nat → Prop} {w : World} {a : Option Addr} {n c : Nat} {l : List Int} (h : IsIp w P a n c l) (hq : ∀ k, P k → Q k) : IsIp w Q a n c l := ⟨h.1, fun b off ha hl => hq b (h.2 b off ha hl)⟩
theorem IsB.ltSize {w : World} {a : Option Addr} {n c : Nat} {l : List UInt8} (h : IsB w a n c l) : ∀ b off, a = some ⟨b, off, none⟩ → l ≠ [] → b < w.heap.size := by
  intro b off ha hl
  rcases h.2.2.2 with ⟨h0, _⟩ | ⟨b', off', h0, hlt, _⟩
  · exact absurd h0 hl
  · rw [ha] at h0; cases h0; exact hlt
theorem IsI.ltSize {w : World} {a : Option Addr} {n c : Nat} {l : List Int} (h : IsI w a n c l) : ∀ b off, a = some ⟨b, off, none⟩ → l ≠ [] → b < w.heap.size := by
  intro b off ha hl
  rcases h.2.2.2 with ⟨h0, _⟩ | ⟨b', off', h0, hlt, _⟩
  · exact absurd h0 hl
  · rw [ha] at h0; cases h0; exact hlt
theorem NwB.isBp {B : Nat} {w : World} {a : Option Addr} {l : List UInt8} (h : NwB B w a l) : IsBp w (fun k => B ≤ k) a l.length l.length l := ⟨h.isB, fun b off ha _ => h.base b off ha⟩
theorem NwI.isIp {B : Nat} {w : World} {a : Option Addr} {l : List Int} (h : NwI B w a l) : IsIp w (fun k => B ≤ k) a l.length l.length l := ⟨h.isI, fun b off ha _ => h.base b off ha⟩

/-- Slices' values that read as lists of bytes. -/
def BBv (w : World) (P : Nat → Prop) (vs : List Value) (L : List (List UInt8)) : Prop := vs.length = L.length ∧ ∀ i (h : i < L.length), ∃ a n c, vs[i]? = some (.slice a n c) ∧ IsBp w P a n c L[i]
theorem BBv.touch {S P : Nat → Prop} {w w' : World} {vs : List Value} {L : List (List UInt8)} (h : BBv w P vs L) (ht : Touch S w w') (hs : ∀ k, P k → ¬ S k) : BBv w' P vs L :=
  ⟨h.1, fun i hi => by obtain ⟨a, n, c, h1, h2⟩ := h.2 i hi; exact ⟨a, n, c, h1, h2.touch ht hs⟩⟩
theorem BBv.below {P : Nat → Prop} {w w' : World} {vs : List Value} {L : List (List UInt8)} (h : BBv w P vs L) (hb : Below w.heap.size w w') : BBv w' P vs L :=
  ⟨h.1, fun i hi => by obtain ⟨a, n, c, h1, h2⟩ := h.2 i hi; exact ⟨a, n, c, h1, h2.below hb⟩⟩
theorem BBv.imp {P Q : Nat → Prop} {w : World} {vs : List Value} {L : List (List UInt8)} (h : BBv w P vs L) (hq : ∀ k, P k → Q k) : BBv w Q vs L :=
  ⟨h.1, fun i hi => by obtain ⟨a, n, c, h1, h2⟩ := h.2 i hi; exact ⟨a, n, c, h1, h2.imp hq⟩⟩
theorem BBv.nil (w : World) (P : Nat → Prop) : BBv w P [] [] := ⟨rfl, fun i h => by simp at h⟩
theorem BBv.snoc {w : World} {P : Nat → Prop} {vs : List Value} {L : List (List UInt8)} (h : BBv w P vs L) {a : Option Addr} {n c : Nat} {l : List UInt8} (hl : IsBp w P a n c l) : BBv w P (vs ++ [.slice a n c]) (L ++ [l]) := by
  refine ⟨by simp [h.1], fun i hi => ?_⟩
  by_cases hil : i < L.length
  · obtain ⟨a', n', c', h1, h2⟩ := h.2 i hil
    refine ⟨a', n', c', ?_, ?_⟩
    · rw [List.getElem?_append_left (by rw [h.1]; exact hil)]; exact h1
    · rw [List.getElem_append_left hil]; exact h2
  · have hie : i = L.length := by simp at hi; omega
    subst hie
    refine ⟨a, n, c, ?_, ?_⟩
    · rw [List.getElem?_append_right (by rw [h.1]; exact Nat.le_refl _), h.1, Nat.sub_self]; rfl
    · rw [List.getElem_append_right (Nat.le_refl _)]; simpa using hl
theorem BBv.one {w : World} {P : Nat → Prop} {vs : List Value} {L : List (List UInt8)} (h : BBv w P vs L) : ∀ v ∈ vs, v.oneCell' = true := by
  intro v hv
  obtain ⟨i, hi, rfl⟩ := List.getElem_of_mem hv
  obtain ⟨a, n, c, h1, _⟩ := h.2 i (by rw [← h.1]; exact hi)
  rw [List.getElem?_eq_getElem hi] at h1
  rw [Option.some.inj h1]; rfl
/-- A slice of slices of bytes. -/
def IsBBp (w : World) (P : Nat → Prop) (a : Option Addr) (n c : Nat) (vs : List Value) (L : List (List UInt8)) : Prop :=
  n = L.length ∧ L.length ≤ c ∧ c ≤ maxLen ∧ BBv w P vs L ∧ (L = [] ∨ ∃ b off, a = some ⟨b, off, none⟩ ∧ P b ∧ b < w.heap.size ∧ ∀ i (h : i < vs.length), w.cell? ⟨b, off + i, none⟩ = some vs[i])
theorem IsBBp.touch {S P : Nat → Prop} {w w' : World} {a : Option Addr} {n c : Nat} {vs : List Value} {L : List (List UInt8)} (h : IsBBp w P a n c vs L) (ht : Touch S w w') (hs : ∀ k, P k → ¬ S k) : IsBBp w' P a n c vs L := by
  obtain ⟨h1, h2, h3, h4, h5 | ⟨b, off, rfl, hP, hlt, hc⟩⟩ := h
  · exact ⟨h1, h2, h3, h4.touch ht hs, .inl h5⟩
  · exact ⟨h1, h2, h3, h4.touch ht hs, .inr ⟨b, off, rfl, hP, Nat.lt_of_lt_of_le hlt ht.size, fun i hi => ht.cell (hc i hi) (hs b hP)⟩⟩
theorem IsBBp.below {P : Nat → Prop} {w w' : World} {a : Option Addr} {n c : Nat} {vs : List Value} {L : List (List UInt8)} (h : IsBBp w P a n c vs L) (hb : Below w.heap.size w w') : IsBBp w' P a n c vs L := h.touch (Touch.of_below (S := fun _ => False) hb) (fun _ _ => id)
theorem IsBBp.imp {P Q : Nat → Prop} {w : World} {a : Option Addr} {n c : Nat} {vs : List Value} {L : List (List UInt8)} (h : IsBBp w P a n c vs L) (hq : ∀ k, P k → Q k) : IsBBp w Q a n c vs L := by
  obtain ⟨h1, h2, h3, h4, h5 | ⟨b, off, rfl, hP, hlt, hc⟩⟩ := h
  · exact ⟨h1, h2, h3, h4.imp hq, .inl h5⟩
  · exact ⟨h1, h2, h3, h4.imp hq, .inr ⟨b, off, rfl, hq b hP, hlt, hc⟩⟩
theorem IsBBp.at {w : World} {P : Nat → Prop} {a : Option Addr} {n c : Nat} {vs : List Value} {L : List (List UInt8)} (h : IsBBp w P a n c vs L) : At w a vs := by
  obtain ⟨h1, h2, h3, h4, h5 | ⟨b, off, rfl, hP, hlt, hc⟩⟩ := h
  · have : vs = [] := List.eq_nil_of_length_eq_zero (by rw [h4.1, h5]; rfl)
    rw [this]; exact At.nil _ _
  · exact At.of_cells hc
theorem IsBBp.of {w : World} {B : Nat} {a : Option Addr} {n c : Nat} {L : List (List UInt8)} (h : IsBB w B a n c L) : ∃ vs, IsBBp w (fun k => k < w.heap.size) a n c vs L := by
  obtain ⟨h1, h2, h3, h4⟩ := h
  by_cases h0 : L = []
  · exact ⟨[], h1, h2, h3, by rw [h0]; exact BBv.nil _ _, .inl h0⟩
  rcases h4 with h4 | ⟨b, off, rfl, hB, hlt, hc⟩
  · exact absurd h4 h0
  obtain ⟨vs, hvl, hv⟩ := take_choose (α := Value) L.length (fun i v => w.cell? ⟨b, off + i, none⟩ = some v ∧ ∀ hi : i < L.length, ∃ a n c, v = .slice a n c ∧ IsB w a n c L[i]) (fun i hi => by
    obtain ⟨u, hu, a, n, c, rfl, hb, _⟩ := hc i hi
    exact ⟨_, hu, fun _ => ⟨a, n, c, rfl, hb⟩⟩)
  refine ⟨vs, h1, h2, h3, ⟨hvl, fun i hi => ?_⟩, .inr ⟨b, off, rfl, hlt, hlt, fun i hi => (hv i hi).1⟩⟩
  obtain ⟨a', n', c', h5, h6⟩ := (hv i (by omega)).2 hi
  exact ⟨a', n', c', by rw [List.getElem?_eq_getElem (by omega), h5], h6, h6.ltSize⟩

/-- Where a config lies. -/
structure StA where
  ra : Option Addr
  rn : Nat
  rc : Nat
  sa : Option Addr
  sn : Nat
  sc : Nat
  sv : List Value
  aa : Option Addr
  an : Nat
  ac : Nat
  ua : Option Addr
  un : Nat
  uc : Nat
def StA.cells (x : StA) (t : Nat) : List Value := [.slice x.ra x.rn x.rc, .slice x.sa x.sn x.sc, .slice x.aa x.an x.ac, .slice x.ua x.un x.uc, .int .u64 (t : Int)]
theorem StA.one (x : StA) (t : Nat) : ∀ v ∈ x.cells t, v.oneCell' = true := by
  intro v hv
  simp [StA.cells] at hv
  rcases hv with rfl | rfl | rfl | rfl | rfl <;> rfl
structure IsCf (w : World) (P : Nat → Prop) (x : StA) (c : StC) : Prop where
  r : IsIp w P x.ra x.rn x.rc c.r
  s : IsBBp w P x.sa x.sn x.sc x.sv c.s
  a : IsBp w P x.aa x.an x.ac c.a
  u : IsBp w P x.ua x.un x.uc c.u
  t : c.t < 18446744073709551616
theorem IsCf.touch {S P : Nat → Prop} {w w' : World} {x : StA} {c : StC} (h : IsCf w P x c) (ht : Touch S w w') (hs : ∀ k, P k → ¬ S k) : IsCf w' P x c := ⟨h.r.touch ht hs, h.s.touch ht hs, h.a.touch ht hs, h.u.touch ht hs, h.t⟩
theorem IsCf.below {P : Nat → Prop} {w w' : World} {x : StA} {c : StC} (h : IsCf w P x c) (hb : Below w.heap.size w w') : IsCf w' P x c := ⟨h.r.below hb, h.s.below hb, h.a.below hb, h.u.below hb, h.t⟩
theorem IsCf.imp {P Q : Nat → Prop} {w : World} {x : StA} {c : StC} (h : IsCf w P x c) (hq : ∀ k, P k → Q k) : IsCf w Q x c := ⟨h.r.imp hq, h.s.imp hq, h.a.imp hq, h.u.imp hq, h.t⟩

/-- May a config be? -/
def mayB (c : StC) : Bool := decide (1 ≤ c.r.length) && decide (c.r.length ≤ 8) && decide (1 ≤ c.s.length) && decide (c.s.length ≤ 8) && decide (c.t ≤ 1099511627776) && okB c.r c.r.length && secB c.a && secB c.u && c.s.all secB
theorem secB_iff (b : List UInt8) : secB b = true ↔ 1 ≤ b.length ∧ b.length ≤ 16 := by simp [secB]
theorem mayB_iff (c : StC) : mayB c = true ↔ c.may := by
  unfold mayB
  simp only [Bool.and_eq_true, decide_eq_true_eq, secB_iff, List.all_eq_true]
  constructor
  · rintro ⟨⟨⟨⟨⟨⟨⟨⟨h1, h2⟩, h3⟩, h4⟩, h5⟩, h6⟩, h7⟩, h8⟩, h9⟩
    unfold okB at h6
    simp only [Bool.and_eq_true, decide_eq_true_eq, inB_iff] at h6
    exact ⟨⟨h1, h2, rfl, h6.2⟩, ⟨h3, h4⟩, h9, h7, h8, h5⟩
  · intro h
    obtain ⟨h1, h2, _, h3⟩ := h.r
    refine ⟨⟨⟨⟨⟨⟨⟨⟨h1, h2⟩, h.s.1⟩, h.s.2⟩, h.t⟩, ?_⟩, h.a⟩, h.u⟩, h.e⟩
    unfold okB
    simp only [Bool.and_eq_true, decide_eq_true_eq, inB_iff]
    exact ⟨⟨by omega, trivial⟩, h3⟩

end Go.Proofs.YtggjhbpggddjmaaGreat

/- The package stores: may; conditions: those typed. -/
namespace Go.Proofs.YtggjhbpggddjmaaGreat
open Go.RowKit
set_option linter.unusedVariables false
set_option linter.unusedSimpArgs false

theorem may1_any (a : Option Addr) (n c : Nat) (b : List UInt8) (w : World) (hn : n = b.length) (hm : b.length ≤ 9223372036854775807) :
    Calls Tryz.prog 84 #[.slice a n c] w fun e w' => e = .returned (.bool (!secB b)) ∧ w = w' := by
  subst hn
  go_enter Tryz.func84, Tryz.ntmps84
  go_wp2_with fail
  refine (secret_any a b.length c b w rfl hm).mono ?_; rintro e w1 ⟨rfl, rfl⟩
  go_wp2_with fail
  go_ret
  exact ⟨rfl, rfl⟩

set_option maxRecDepth 100000 in
set_option maxHeartbeats 2000000 in
theorem sidx_any (P : Nat → Prop) (a : Option Addr) (n c : Nat) (vs : List Value) (L : List (List UInt8)) (w : World) (h : IsBBp w P a n c vs L) :
    Calls Tryz.prog 96 #[.slice a n c, .func (.func 84) #[] #[]] w fun e w' => (∃ i : Int, e = .returned (.int .i64 i) ∧ decide (0 ≤ i) = !L.all secB) ∧ w = w' := by
  obtain ⟨rfl, h1, h2, hv, hc⟩ := h
  have hm : L.length ≤ 9223372036854775807 := by unfold maxLen at h2; omega
  have HC : Hid (∀ k (h : k < L.length), ∃ b off x y z, a = some ⟨b, off, none⟩ ∧ w.cell? ⟨b, off + k, none⟩ = some (.slice x y z) ∧ IsB w x y z L[k]) := Lib.hid (fun k hk => by
    rcases hc with h0 | ⟨b, off, rfl, _, _, hc⟩
    · rw [h0] at hk; simp at hk
    · obtain ⟨x, y, z, h3, h4⟩ := hv.2 k hk
      have hkv : k < vs.length := by rw [hv.1]; exact hk
      rw [List.getElem?_eq_getElem hkv] at h3
      have := hc k hkv
      rw [Option.some.inj h3] at this
      exact ⟨b, off, x, y, z, rfl, this, h4.1⟩)
  clear h1 h2 hv hc
  obtain ⟨N, hN⟩ : ∃ N, N = L.length := ⟨_, rfl⟩
  have HN := Lib.hid hN
  clear hN
  go_enter Tryz.func96, Tryz.ntmps96
  go_wp2_with fail
  go_loop [8] (fun i => ∃ k : Nat, k ≤ L.length ∧ i = .int .i64 k ∧ Hid (∀ j (hj : j < L.length), j < k → secB L[j] = true)) (fun i => N - (intOf i).toNat)
  case atStart => exact ⟨0, Nat.zero_le _, rfl, Lib.hid (fun j hj h => by omega)⟩
  case round =>
    obtain ⟨k, hk, rfl, HS⟩ := hrel
    by_cases hlt : k < L.length
    · obtain ⟨b, off, x, y, z, rfl, hcell, hb⟩ := HC.out k hlt
      have hbn := hb.1
      have hbm : L[k].length ≤ 9223372036854775807 := by have := hb.2.1; have := hb.2.2.1; unfold maxLen at this; omega
      have hsec : Hid (secB L[k] = true → ∀ j (hj : j < L.length), j < k + 1 → secB L[j] = true) := Lib.hid (fun hs j hj h => by
        by_cases hjk : j = k
        · subst hjk; exact hs
        · exact HS.out j hj (by omega))
      have hbad : Hid (secB L[k] = false → L.all secB = false) := Lib.hid (fun hs => by
        rw [Bool.eq_false_iff]
        intro e
        have := (List.all_eq_true.1 e) L[k] (List.getElem_mem hlt)
        rw [hs] at this; cases this)
      generalize L[k] = lk at hb hbn hbm hsec hbad
      have HB := Lib.hid hb
      clear hb
      have HBN := Lib.hid hbn
      clear hbn
      go_wp2_with fail
      refine (may1_any x y z lk w HBN.out hbm).mono ?_; rintro e w1 ⟨rfl, rfl⟩
      cases hq : secB lk with
      | true =>
        have HS2 := Lib.hid (hsec.out hq)
        clear hq
        go_wp2_with fail
        go_round
        case rel => exact ⟨k + 1, by omega, by go_num, HS2⟩
        case measure => have := HN.out; simp [intOf]; omega
      | false =>
        have HA := Lib.hid (hbad.out hq)
        clear hq
        go_wp2_with fail
        go_ret
        exact ⟨⟨k, rfl, by rw [HA.out]; simp⟩, rfl⟩
    · have hkk : k = L.length := by omega
      have HA : Hid (L.all secB = true) := Lib.hid (List.all_eq_true.2 (fun x hx => by obtain ⟨i, hi, rfl⟩ := List.getElem_of_mem hx; exact HS.out i hi (by omega)))
      subst hkk
      go_wp2_with fail
      go_ret
      exact ⟨⟨-1, rfl, by rw [HA.out]; rfl⟩, rfl⟩

theorem scontains_any (P : Nat → Prop) (a : Option Addr) (n c : Nat) (vs : List Value) (L : List (List UInt8)) (w : World) (h : IsBBp w P a n c vs L) :
    Calls Tryz.prog 83 #[.slice a n c, .func (.func 84) #[] #[]] w fun e w' => e = .returned (.bool (!L.all secB)) ∧ w = w' := by
  go_enter Tryz.func83, Tryz.ntmps83
  go_wp2_with fail
  refine (sidx_any P a n c vs L w h).mono ?_; rintro e w1 ⟨⟨i, rfl, hi⟩, rfl⟩
  have HI := Lib.hid hi
  clear hi h
  go_wp2_with fail
  go_ret
  exact ⟨by rw [← HI.out]; rfl, rfl⟩

set_option maxRecDepth 100000 in
set_option maxHeartbeats 8000000 in
theorem may_any (P : Nat → Prop) (x : StA) (c : StC) (w : World) (h : IsCf w P x c) :
    Calls Tryz.prog 55 #[.agg (x.cells c.t).toArray] w fun e w' => e = .returned (.bool (mayB c)) ∧ Below w.heap.size w w' := by
  obtain ⟨ra, rn, rc, sa, sn, sc, sv, aa, an, ac, ua, un, uc⟩ := x
  obtain ⟨hr, hs, ha, hu, ht⟩ := h
  dsimp only at hr hs ha hu ⊢
  unfold StA.cells
  dsimp only
  have hb0 : Below w.heap.size w (w.alloc (.cells #[.slice ra rn rc, .slice sa sn sc, .slice aa an ac, .slice ua un uc, .int .u64 (c.t : Int)] 27)) := (Below.refl _ _).alloc (Nat.le_refl _) _
  have hv := heap_new w (.cells #[.slice ra rn rc, .slice sa sn sc, .slice aa an ac, .slice ua un uc, .int .u64 (c.t : Int)] 27 (0, 0))
  obtain rfl := hr.1.1
  obtain rfl := hs.1
  have han := ha.1.1
  have hun := hu.1.1
  have ham : c.a.length ≤ 9223372036854775807 := by have := ha.1.2.1; have := ha.1.2.2.1; unfold maxLen at this; omega
  have hum : c.u.length ≤ 9223372036854775807 := by have := hu.1.2.1; have := hu.1.2.2.1; unfold maxLen at this; omega
  have hrb := hr.1.below hb0
  have hsb := hs.below hb0
  generalize hW : w.alloc (.cells #[.slice ra c.r.length rc, .slice sa c.s.length sc, .slice aa an ac, .slice ua un uc, .int .u64 (c.t : Int)] 27) = w0 at hb0 hv hrb hsb
  have f0 : w0.cell? ⟨w.heap.size, 0, none⟩ = some (.slice ra c.r.length rc) := by rw [cell_of_block hv]; rfl
  have f1 : w0.cell? ⟨w.heap.size, 1, none⟩ = some (.slice sa c.s.length sc) := by rw [cell_of_block hv]; rfl
  have f4 : w0.cell? ⟨w.heap.size, 4, none⟩ = some (.int .u64 (c.t : Int)) := by rw [cell_of_block hv]; rfl
  have HV := Lib.hid hv
  have HMB : Hid (mayB c = (decide (1 ≤ c.r.length) && decide (c.r.length ≤ 8) && decide (1 ≤ c.s.length) && decide (c.s.length ≤ 8) && decide (c.t ≤ 1099511627776) && okB c.r c.r.length && secB c.a && secB c.u && c.s.all secB)) := Lib.hid rfl
  have HR := Lib.hid hrb
  have HS := Lib.hid hsb
  have HAN := Lib.hid han
  have HUN := Lib.hid hun
  clear hr hs ha hu hrb hsb hv han hun
  by_cases h1 : ¬ (1 ≤ c.r.length)
  · have d1 : decide ((1 : Int) ≤ (c.r.length : Int)) = false := decide_eq_false (by omega)
    have HF : Hid (mayB c = false) := Lib.hid (by rw [HMB.out, decide_eq_false h1]; simp)
    clear h1
    go_enter Tryz.func55, Tryz.ntmps55
    go_wp2_with fail
    go_ret
    exact ⟨by rw [HF.out]; rfl, hb0⟩
  have h1 := Decidable.not_not.1 h1
  have d1 : decide ((1 : Int) ≤ (c.r.length : Int)) = true := decide_eq_true (by omega)
  by_cases h2 : ¬ (c.r.length ≤ 8)
  · have d2 : decide ((c.r.length : Int) ≤ 8) = false := decide_eq_false (by omega)
    have HF : Hid (mayB c = false) := Lib.hid (by rw [HMB.out, decide_eq_false h2]; simp)
    clear h2
    go_enter Tryz.func55, Tryz.ntmps55
    go_wp2_with fail
    go_ret
    exact ⟨by rw [HF.out]; rfl, hb0⟩
  have h2 := Decidable.not_not.1 h2
  have d2 : decide ((c.r.length : Int) ≤ 8) = true := decide_eq_true (by omega)
  by_cases h3 : ¬ (1 ≤ c.s.length)
  · have d3 : decide ((1 : Int) ≤ (c.s.length : Int)) = false := decide_eq_false (by omega)
    have HF : Hid (mayB c = false) := Lib.hid (by rw [HMB.out, decide_eq_false h3]; simp)
    clear h3
    go_enter Tryz.func55, Tryz.ntmps55
    go_wp2_with fail
    go_ret
    exact ⟨by rw [HF.out]; rfl, hb0⟩
  have h3 := Decidable.not_not.1 h3
  have d3 : decide ((1 : Int) ≤ (c.s.length : Int)) = true := decide_eq_true (by omega)
  by_cases h4 : ¬ (c.s.length ≤ 8)
  · have d4 : decide ((c.s.length : Int) ≤ 8) = false := decide_eq_false (by omega)
    have HF : Hid (mayB c = false) := Lib.hid (by rw [HMB.out, decide_eq_false h4]; simp)
    clear h4
    go_enter Tryz.func55, Tryz.ntmps55
    go_wp2_with fail
    go_ret
    exact ⟨by rw [HF.out]; rfl, hb0⟩
  have h4 := Decidable.not_not.1 h4
  have d4 : decide ((c.s.length : Int) ≤ 8) = true := decide_eq_true (by omega)
  by_cases h5 : ¬ (c.t ≤ 1099511627776)
  · have d5 : decide ((c.t : Int) ≤ 1099511627776) = false := decide_eq_false (by omega)
    have HF : Hid (mayB c = false) := Lib.hid (by rw [HMB.out, decide_eq_false h5]; simp)
    clear h5
    go_enter Tryz.func55, Tryz.ntmps55
    go_wp2_with fail
    go_ret
    exact ⟨by rw [HF.out]; rfl, hb0⟩
  have h5 := Decidable.not_not.1 h5
  have d5 : decide ((c.t : Int) ≤ 1099511627776) = true := decide_eq_true (by omega)
  have E1 : Hid (mayB c = (okB c.r c.r.length && secB c.a && secB c.u && c.s.all secB)) := Lib.hid (by rw [HMB.out, decide_eq_true h1, decide_eq_true h2, decide_eq_true h3, decide_eq_true h4, decide_eq_true h5]; simp)
  clear HMB
  go_enter Tryz.func55, Tryz.ntmps55
  go_wp2_with fail
  refine (vcheck_any ra c.r.length rc c.r c.r.length w0 HR.out ⟨by omega, by omega⟩).mono ?_; rintro e w1 ⟨rfl, hb1⟩
  have hv1 := below_heap hb1 HV.out (lt_of_heap HV.out)
  have g1 : w1.cell? ⟨w.heap.size, 1, none⟩ = some (.slice sa c.s.length sc) := by rw [cell_of_block hv1]; rfl
  have g2 : w1.cell? ⟨w.heap.size, 2, none⟩ = some (.slice aa an ac) := by rw [cell_of_block hv1]; rfl
  have g3 : w1.cell? ⟨w.heap.size, 3, none⟩ = some (.slice ua un uc) := by rw [cell_of_block hv1]; rfl
  have HB : Hid (Below w.heap.size w w1) := Lib.hid (hb0.trans (hb1.mono hb0.size))
  have HS1 := Lib.hid (HS.out.below hb1)
  clear hv1 hb1 hb0 f0 f1 f4 hW HS HR HV
  cases hk1 : okB c.r c.r.length with
  | false =>
    have HF : Hid (mayB c = false) := Lib.hid (by rw [E1.out, hk1]; rfl)
    clear hk1
    go_wp2_with fail
    go_ret
    exact ⟨by rw [HF.out]; rfl, HB.out⟩
  | true =>
    have K1 := Lib.hid hk1
    clear hk1
    go_wp2_with fail
    refine (secret_any aa an ac c.a w1 HAN.out ham).mono ?_; rintro e _ ⟨rfl, rfl⟩
    cases hk2 : secB c.a with
    | false =>
      have HF : Hid (mayB c = false) := Lib.hid (by rw [E1.out, K1.out, hk2]; rfl)
      clear hk2
      go_wp2_with fail
      go_ret
      exact ⟨by rw [HF.out]; rfl, HB.out⟩
    | true =>
      have K2 := Lib.hid hk2
      clear hk2
      go_wp2_with fail
      refine (secret_any ua un uc c.u w1 HUN.out hum).mono ?_; rintro e _ ⟨rfl, rfl⟩
      cases hk3 : secB c.u with
      | false =>
        have HF : Hid (mayB c = false) := Lib.hid (by rw [E1.out, K1.out, K2.out, hk3]; rfl)
        clear hk3
        go_wp2_with fail
        go_ret
        exact ⟨by rw [HF.out]; rfl, HB.out⟩
      | true =>
        have K3 : Hid (mayB c = c.s.all secB) := Lib.hid (by rw [E1.out, K1.out, K2.out, hk3]; rfl)
        clear hk3
        go_wp2_with fail
        refine (scontains_any P sa c.s.length sc sv c.s w1 HS1.out).mono ?_; rintro e _ ⟨rfl, rfl⟩
        go_wp2_with fail
        go_ret
        exact ⟨by rw [K3.out]; simp, HB.out⟩

end Go.Proofs.YtggjhbpggddjmaaGreat

/- Opening the arguments of layer 20's statements; no condition. -/
namespace Go.Proofs.YtggjhbpggddjmaaGreat
open Go.ChangeShapes Go.WideShapes Go.ChangeAt Go.RowKit Go.Deep
set_option linter.unusedVariables false
set_option maxRecDepth 100000

/-- A config among the cells. -/
theorem cfg_openC {w : World} {cs : List Value} (o : Opened Tryz.prog w 27 cs) : ∃ (x : StA) (c : StC), cs = x.cells c.t ∧ IsCf w (fun k => k < w.heap.size) x c := by
  obtain ⟨hl, hf⟩ := o.struct Tryz.underlying27
  have hl' : cs.length = 5 := hl.trans (by kernel_rfl)
  have k : ∀ t, Tryz.prog.cellsOf t = 1 → ∀ x, Opened Tryz.prog w t ((cs.drop x).take (Tryz.prog.cellsOf t)) → Opened Tryz.prog w t ((cs.drop x).take 1) := fun t ht x h => by rwa [ht] at h
  obtain ⟨ra, rn, rc, rl, e0, h0, _⟩ := (k _ (by kernel_rfl) 0 (hf 0 _ rfl)).ints Tryz.underlying22 Tryz.underlying3 (by kernel_rfl) (by kernel_rfl)
  obtain ⟨sa, sn, sc, L, e1, h1, m1⟩ := (k _ (by kernel_rfl) 1 (hf 1 _ rfl)).bytess Tryz.underlying23 Tryz.underlying24 Tryz.underlying5 (by kernel_rfl) (by kernel_rfl) (by kernel_rfl)
  obtain ⟨aa, an, ac, ad, e2, h2, m2⟩ := (k _ (by kernel_rfl) 2 (hf 2 _ rfl)).bytes Tryz.underlying24 Tryz.underlying5 (by kernel_rfl) (by kernel_rfl)
  obtain ⟨ua, un, uc, au, e3, h3, m3⟩ := (k _ (by kernel_rfl) 3 (hf 3 _ rfl)).bytes Tryz.underlying24 Tryz.underlying5 (by kernel_rfl) (by kernel_rfl)
  obtain ⟨uv, e4⟩ := (k _ (by kernel_rfl) 4 (hf 4 _ rfl)).u64 Tryz.underlying25
  obtain ⟨vs, hv⟩ := IsBBp.of h1
  refine ⟨⟨ra, rn, rc, sa, sn, sc, vs, aa, an, ac, ua, un, uc⟩, ⟨rl, L, ad, au, uv.toNat⟩, ?_, ⟨⟨h0, fun b off ha hl => h0.ltSize b off ha hl⟩, hv, ⟨h2, fun b off ha hl => h2.ltSize b off ha hl⟩, ⟨h3, fun b off ha hl => h3.ltSize b off ha hl⟩, uv.toNat_lt⟩⟩
  have : cs = cs.drop 0 := rfl
  rw [this, drop_piece cs 0 1, e0, drop_piece cs (0 + 1) 1, e1, drop_piece cs (0 + 1 + 1) 1, e2, drop_piece cs (0 + 1 + 1 + 1) 1, e3, drop_piece cs (0 + 1 + 1 + 1 + 1) 1, e4, List.drop_eq_nil_of_le (by omega)]
  rfl
/-- A config as an argument. -/
theorem cfg_arg {w : World} {r : Reach} {b0 : Nat} {v : Value} (hv : Value.okWide Tryz.prog w r b0 27 v) (o : Opened Tryz.prog w 27 v.cells.toList) : ∃ (x : StA) (c : StC), v = .agg (x.cells c.t).toArray ∧ IsCf w (fun k => k < w.heap.size) x c := by
  obtain ⟨cs, rfl, o'⟩ := Opened.structV Tryz.underlying27 hv o
  obtain ⟨x, c, rfl, h⟩ := cfg_openC o'
  exact ⟨x, c, rfl, h⟩

/-- A list of phases as an argument. -/
theorem phases_arg {w : World} {r : Reach} {b0 : Nat} {v : Value} (hv : Value.okWide Tryz.prog w r b0 28 v) (o : Opened Tryz.prog w 28 v.cells.toList) : ∃ a n c l, v = .slice a n c ∧ IsB w a n c l := by
  obtain ⟨a, n, c, l, e, h, _⟩ := o.bytes Tryz.underlying28 Tryz.underlying34 (by kernel_rfl) (by kernel_rfl)
  exact ⟨a, n, c, l, list_one ((Opened.sliceV Tryz.underlying28 hv o).symm.trans e), h⟩

end Go.Proofs.YtggjhbpggddjmaaGreat

/- Opening the argument of StoresNone; no condition. -/
namespace Go.Proofs.YtggjhbpggddjmaaGreat
open Go.ChangeShapes Go.WideShapes Go.ChangeAt Go.RowKit Go.Deep
set_option linter.unusedVariables false
set_option maxRecDepth 100000

/-- A record among the cells. -/
theorem rec_openC {w : World} {cs : List Value} (o : Opened Tryz.prog w 41 cs) : ∃ (sq : Nat) (st : Bool) (a : Option Addr) (n c : Nat) (l : List Int), cs = [.int .u32 sq, .bool st, .slice a n c] ∧ sq < 4294967296 ∧ IsI w a n c l ∧ l.length ≤ 140737488351232 := by
  obtain ⟨hl, hf⟩ := o.struct Tryz.underlying41
  have hl' : cs.length = 3 := hl.trans (by kernel_rfl)
  have k : ∀ t, Tryz.prog.cellsOf t = 1 → ∀ x, Opened Tryz.prog w t ((cs.drop x).take (Tryz.prog.cellsOf t)) → Opened Tryz.prog w t ((cs.drop x).take 1) := fun t ht x h => by rwa [ht] at h
  obtain ⟨sq, e0⟩ := (k _ (by kernel_rfl) 0 (hf 0 _ rfl)).u32 Tryz.underlying39
  obtain ⟨st, e1⟩ := (k _ (by kernel_rfl) 1 (hf 1 _ rfl)).bool Tryz.underlying4
  obtain ⟨ra, rn, rc, rl, e2, h2, m2⟩ := (k _ (by kernel_rfl) 2 (hf 2 _ rfl)).ints Tryz.underlying22 Tryz.underlying3 (by kernel_rfl) (by kernel_rfl)
  refine ⟨sq.toNat, st, ra, rn, rc, rl, ?_, sq.toNat_lt, h2, ?_⟩
  · have : cs = cs.drop 0 := rfl
    rw [this, drop_piece cs 0 1, e0, drop_piece cs (0 + 1) 1, e1, drop_piece cs (0 + 1 + 1) 1, e2, List.drop_eq_nil_of_le (by omega)]
    rfl
  · omega

theorem none_arg {w : World} {r : Reach} {b0 : Nat} {v : Value} (hv : Value.okWide Tryz.prog w r b0 73 v) (o : Opened Tryz.prog w 73 v.cells.toList) :
    ∃ (who : Int) (sq : Nat) (st : Bool) (ra : Option Addr) (rn rc p : Nat) (la : Option Addr) (ln lc : Nat), v = .agg #[.int .i64 who, .int .u32 sq, .bool st, .slice ra rn rc, .int .u8 p, .slice la ln lc] := by
  obtain ⟨cs, rfl, o'⟩ := Opened.structV Tryz.underlying73 hv o
  obtain ⟨hl, hf⟩ := o'.struct Tryz.underlying73
  have hl' : cs.length = 6 := hl.trans (by kernel_rfl)
  have k : ∀ t n, Tryz.prog.cellsOf t = n → ∀ x, Opened Tryz.prog w t ((cs.drop x).take (Tryz.prog.cellsOf t)) → Opened Tryz.prog w t ((cs.drop x).take n) := fun t n ht x h => by rwa [ht] at h
  obtain ⟨who, e0, _⟩ := (k _ 1 (by kernel_rfl) 0 (hf 0 _ rfl)).i64 Tryz.underlying3
  obtain ⟨sq, st, ra, rn, rc, rl, e1, _, _, _⟩ := rec_openC (k _ 3 (by kernel_rfl) 1 (hf 1 _ rfl))
  obtain ⟨p, e2⟩ := (k _ 1 (by kernel_rfl) 4 (hf 2 _ rfl)).u8 Tryz.underlying34
  obtain ⟨la, ln, lc, ll, e3, _, _⟩ := (k _ 1 (by kernel_rfl) 5 (hf 3 _ rfl)).ints Tryz.underlying22 Tryz.underlying3 (by kernel_rfl) (by kernel_rfl)
  refine ⟨who, sq, st, ra, rn, rc, p.toNat, la, ln, lc, ?_⟩
  have : cs = cs.drop 0 := rfl
  rw [this, drop_piece cs 0 1, e0, drop_piece cs (0 + 1) 3, e1, drop_piece cs (0 + 1 + 3) 1, e2, drop_piece cs (0 + 1 + 3 + 1) 1, e3, List.drop_eq_nil_of_le (by omega)]
  rfl

end Go.Proofs.YtggjhbpggddjmaaGreat
