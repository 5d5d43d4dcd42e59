/- The package phases: what its functions return; conditions: those typed (the tables of the package lie as the program lays them). -/
import Derived.Test.YteonifhncpnjiaaDoorBase
import Derived.Deep.RegionHeld3
namespace Go.Proofs.YteonifhncpnjiaaDoor
open Go.RowKit
set_option linter.unusedVariables false

/-! ### May -/
def mayB (p a now til : Nat) : Bool :=
  if a = 2 ∨ a = 3 then p == 1 && decide (now ≤ til)
  else if a = 4 then p != 0
  else if a = 5 ∨ a = 9 then p == 2
  else if a = 6 then p == 0
  else if a = 7 then p == 1
  else if a = 8 then decide (p ≤ 1)
  else true
def errI (b : Bool) (e : Int) : Int := if b then 0 else e

set_option maxHeartbeats 2000000 in
theorem may_any (p a now til : Nat) (w : World) (ha : a < 256) :
    Calls Tryd.prog 9 #[.int .u8 p, .int .u8 a, .int .u64 now, .int .u64 til] w fun e w' => e = .returned (.int .i64 (errI (mayB p a now til) 8)) ∧ w = w' := by
  have hcase : a = 2 ∨ a = 3 ∨ a = 4 ∨ a = 5 ∨ a = 6 ∨ a = 7 ∨ a = 8 ∨ a = 9 ∨ (a ≠ 2 ∧ a ≠ 3 ∧ a ≠ 4 ∧ a ≠ 5 ∧ a ≠ 6 ∧ a ≠ 7 ∧ a ≠ 8 ∧ a ≠ 9) := by omega
  have hp01 : (p = 0 ∨ p = 1 ∨ p = 2 ∨ 2 < p) := by omega
  rcases hcase with rfl | rfl | rfl | rfl | rfl | rfl | rfl | rfl | ⟨h2, h3, h4, h5, h6, h7, h8, h9⟩
  all_goals (try (have e2 : ((a : Int) == 2) = false := by rw [beq_eq_false_iff_ne]; omega))
  all_goals (try (have e3 : ((a : Int) == 3) = false := by rw [beq_eq_false_iff_ne]; omega))
  all_goals (try (have e4 : ((a : Int) == 4) = false := by rw [beq_eq_false_iff_ne]; omega))
  all_goals (try (have e5 : ((a : Int) == 5) = false := by rw [beq_eq_false_iff_ne]; omega))
  all_goals (try (have e6 : ((a : Int) == 6) = false := by rw [beq_eq_false_iff_ne]; omega))
  all_goals (try (have e7 : ((a : Int) == 7) = false := by rw [beq_eq_false_iff_ne]; omega))
  all_goals (try (have e8 : ((a : Int) == 8) = false := by rw [beq_eq_false_iff_ne]; omega))
  all_goals (try (have e9 : ((a : Int) == 9) = false := by rw [beq_eq_false_iff_ne]; omega))
  all_goals
    go_enter Tryd.func9, Tryd.ntmps9
    go_wp2
  all_goals
    go_ret
    refine ⟨?_, rfl⟩
    simp [mayB, errI]
  all_goals (try (simp_all; done))
  all_goals (try (simp_all; omega))
  all_goals (try (simp_all; intro; omega))
  all_goals go_ways

/-! ### Next -/
def nextN (p a : Nat) : Nat := if a = 6 ∧ p = 0 then 1 else if a = 7 ∧ p = 1 then 2 else if a = 8 ∧ p ≤ 1 then 3 else p
/-- The table 'next', as it lies. -/
def LaidNext (w : World) : Prop :=
  w.cell? ⟨0, 6, none⟩ = some (.int .u8 1) ∧ w.cell? ⟨0, 7, none⟩ = some (.int .u8 2) ∧ w.cell? ⟨0, 8, none⟩ = some (.int .u8 3)

theorem may_val (p a now til : Nat) (v : Int) (w : World) (ha : a < 256) (hv : errI (mayB p a now til) 8 = v) :
    Calls Tryd.prog 9 #[.int .u8 p, .int .u8 a, .int .u64 now, .int .u64 til] w fun e w' => e = .returned (.int .i64 v) ∧ w = w' := hv ▸ may_any p a now til w ha

set_option maxHeartbeats 2000000 in
theorem next_any (p a : Nat) (w : World) (ha : a < 256) (hL : LaidNext w) :
    Calls Tryd.prog 8 #[.int .u8 p, .int .u8 a] w fun e w' => e = .returned (.int .u8 (nextN p a)) ∧ w = w' := by
  obtain ⟨l6, l7, l8⟩ := hL
  by_cases h1 : a < 6
  · have hd : decide ((a : Int) < 6) = true := by simp; omega
    have hv : nextN p a = p := by unfold nextN; rw [if_neg (by omega), if_neg (by omega), if_neg (by omega)]
    have HV : Hid _ := Lib.hid hv
    clear hv
    go_enter Tryd.func8, Tryd.ntmps8
    go_wp2
    go_ret
    exact ⟨by rw [HV.out]; rfl, rfl⟩
  by_cases h2 : 9 ≤ a
  · have hd : decide ((a : Int) < 6) = false := by simp; omega
    have hd : decide ((9 : Int) ≤ (a : Int)) = true := by simp; omega
    have hv : nextN p a = p := by unfold nextN; rw [if_neg (by omega), if_neg (by omega), if_neg (by omega)]
    have HV : Hid _ := Lib.hid hv
    clear hv
    go_enter Tryd.func8, Tryd.ntmps8
    go_wp2
    go_ret
    exact ⟨by rw [HV.out]; rfl, rfl⟩
  have h678 : a = 6 ∨ a = 7 ∨ a = 8 := by omega
  clear h1 h2
  by_cases hb : mayB p a 0 0 = true
  · have hv : nextN p a = a - 5 := by
      rcases h678 with rfl | rfl | rfl <;> simp [mayB] at hb <;> simp [nextN, hb]
    rcases h678 with rfl | rfl | rfl
    all_goals
      have HV : Hid _ := Lib.hid hv
      clear hv
      have HB : Hid _ := Lib.hid hb
      clear hb
      go_enter Tryd.func8, Tryd.ntmps8
      go_wp2_with (go_at_call 9; refine (may_val p _ 0 0 0 _ (by decide) (by rw [HB.out]; rfl)).mono ?_; rintro e w' ⟨rfl, rfl⟩)
      go_ret
      exact ⟨by rw [HV.out]; rfl, rfl⟩
  · have hb' : mayB p a 0 0 = false := by simpa using hb
    have hv : nextN p a = p := by
      rcases h678 with rfl | rfl | rfl <;> simp [mayB] at hb' <;> simp [nextN] <;> omega
    rcases h678 with rfl | rfl | rfl
    all_goals
      have HV : Hid _ := Lib.hid hv
      clear hv hb
      have HB : Hid _ := Lib.hid hb'
      clear hb'
      go_enter Tryd.func8, Tryd.ntmps8
      go_wp2_with (go_at_call 9; refine (may_val p _ 0 0 8 _ (by decide) (by rw [HB.out]; rfl)).mono ?_; rintro e w' ⟨rfl, rfl⟩)
      go_ret
      exact ⟨by rw [HV.out]; rfl, rfl⟩

/-! ### slices.Index, slices.Contains of bytes -/
set_option maxHeartbeats 1000000 in
theorem index_some (b off cap : Nat) (l : List UInt8) (x : UInt8) (w : World) (hlen : l.length ≤ 9223372036854775807)
    (hc : ∀ i (h : i < l.length), w.cell? ⟨b, off + i, none⟩ = some (.int .u8 l[i].toNat)) :
    Calls Tryd.prog 14 #[.slice (some ⟨b, off, none⟩) l.length cap, .int .u8 x.toNat] w fun e w' => ∃ r : Int, e = .returned (.int .i64 r) ∧ (0 ≤ r ↔ x ∈ l) ∧ w = w' := by
  go_enter Tryd.func14, Tryd.ntmps14
  go_wp2
  go_loop [8] (fun i => ∃ k : Nat, k ≤ l.length ∧ i = .int .i64 k ∧ ∀ j (h : j < l.length), j < k → l[j] ≠ x) (fun i => l.length - (intOf i).toNat)
  case atStart => exact ⟨0, Nat.zero_le _, rfl, fun j _ h => absurd h (Nat.not_lt_zero j)⟩
  case round =>
    obtain ⟨k, hk, rfl, hno⟩ := hrel
    have HN := Lib.hid hno
    clear hno
    by_cases hlt : k < l.length
    · have hcell := hc k hlt
      clear hc
      by_cases he : l[k] = x
      · have hee : ((x.toNat : Int) == (l[k].toNat : Int)) = true := by rw [he]; simp
        have HE := Lib.hid he
        clear he
        go_wp2
        go_ret
        refine ⟨_, rfl, ?_, rfl⟩
        constructor
        · intro _; rw [← HE.out]; exact List.getElem_mem hlt
        · intro _; simp
      · have hee : ((x.toNat : Int) == (l[k].toNat : Int)) = false := by
          rw [beq_eq_false_iff_ne]; intro h; exact he (UInt8.toNat_inj.1 (by omega))
        have HE := Lib.hid he
        clear he
        go_wp2
        go_round
        case rel => exact ⟨k + 1, by omega, by go_num, fun j h hj => by
          rcases Nat.lt_or_ge j k with h1 | h1
          · exact HN.out j h h1
          · obtain rfl : j = k := by omega
            exact HE.out⟩
        case measure => simp [intOf]; omega
    · have hkk : k = l.length := by omega
      subst hkk
      clear hc
      go_wp2
      go_ret
      refine ⟨_, rfl, ?_, rfl⟩
      constructor
      · intro h; simp at h
      · intro h
        obtain ⟨j, hj, rfl⟩ := List.getElem_of_mem h
        exact absurd rfl (HN.out j hj hj)

theorem contains_some (b off cap : Nat) (l : List UInt8) (x : UInt8) (w : World) (hlen : l.length ≤ 9223372036854775807)
    (hc : ∀ i (h : i < l.length), w.cell? ⟨b, off + i, none⟩ = some (.int .u8 l[i].toNat)) :
    Calls Tryd.prog 13 #[.slice (some ⟨b, off, none⟩) l.length cap, .int .u8 x.toNat] w fun e w' => e = .returned (.bool (l.contains x)) ∧ w = w' := by
  go_enter Tryd.func13, Tryd.ntmps13
  go_wp2_with (go_at_call 14; refine (index_some b off cap l x w hlen hc).mono ?_; rintro e w' ⟨r, rfl, hr, rfl⟩)
  go_ret
  refine ⟨?_, rfl⟩
  show Ending.returned (.bool _) = _
  congr 2
  rw [Bool.eq_iff_iff]
  simp

theorem contains_val (b off cap : Nat) (l : List UInt8) (x : UInt8) (v : Bool) (w : World) (hlen : l.length ≤ 9223372036854775807) (hv : l.contains x = v)
    (hc : ∀ i (h : i < l.length), w.cell? ⟨b, off + i, none⟩ = some (.int .u8 l[i].toNat)) :
    Calls Tryd.prog 13 #[.slice (some ⟨b, off, none⟩) l.length cap, .int .u8 x.toNat] w fun e w' => e = .returned (.bool v) ∧ w = w' := hv ▸ contains_some b off cap l x w hlen hc

/-! ### the table 'may' -/
theorem lt_of_cell {w : World} {a : Addr} {v : Value} (h : w.cell? a = some v) : a.block < w.heap.size := by
  rcases Nat.lt_or_ge a.block w.heap.size with h' | h'
  · exact h'
  · simp [World.cell?, Array.getElem?_eq_none h'] at h
def LaidRow (w : World) (r : Nat) (l : List UInt8) : Prop :=
  ∃ b off c, w.cell? ⟨1, r, none⟩ = some (.slice (some ⟨b, off, none⟩) l.length c) ∧ ∀ i (h : i < l.length), w.cell? ⟨b, off + i, none⟩ = some (.int .u8 l[i].toNat)
structure Laid (w : World) : Prop where
  next : LaidNext w
  row0 : LaidRow w 0 [1, 10, 2, 3, 4, 5]
  row1 : LaidRow w 1 [1, 10, 6, 7, 8]
  row2 : LaidRow w 2 [1, 10, 9]
theorem cell_below {w w' : World} (hb : Below w.heap.size w w') {a : Addr} {v : Value} (h : w.cell? a = some v) : w'.cell? a = some v := (hb.cell (lt_of_cell h)).trans h
theorem LaidRow.below {w w' : World} {r : Nat} {l : List UInt8} (h : LaidRow w r l) (hb : Below w.heap.size w w') : LaidRow w' r l := by
  obtain ⟨b, off, c, h1, h2⟩ := h
  exact ⟨b, off, c, cell_below hb h1, fun i hi => cell_below hb (h2 i hi)⟩
theorem Laid.below {w w' : World} (h : Laid w) (hb : Below w.heap.size w w') : Laid w' :=
  ⟨⟨cell_below hb h.next.1, cell_below hb h.next.2.1, cell_below hb h.next.2.2⟩, h.row0.below hb, h.row1.below hb, h.row2.below hb⟩

/-! ### Who -/
def whoB (ask who : Nat) (n : Int) : Bool :=
  if who = 0 then ask == 1 || ask == 10 || ask == 6 || ask == 7 || ask == 8
  else if who = 255 then ask == 1 || ask == 10 || ask == 9
  else if n < who then false
  else ask == 1 || ask == 10 || ask == 2 || ask == 3 || ask == 4 || ask == 5

theorem contains_nat (b off cap m : Nat) (l : List UInt8) (x : Nat) (v : Bool) (w : World) (hm : m = l.length) (hlen : l.length ≤ 9223372036854775807) (hx : x < 256) (hv : l.contains (UInt8.ofNat x) = v)
    (hc : ∀ i (h : i < l.length), w.cell? ⟨b, off + i, none⟩ = some (.int .u8 l[i].toNat)) :
    Calls Tryd.prog 13 #[.slice (some ⟨b, off, none⟩) m cap, .int .u8 x] w fun e w' => e = .returned (.bool v) ∧ w = w' := by
  subst hm
  have := contains_val b off cap l (UInt8.ofNat x) v w hlen hv hc
  rwa [show (UInt8.ofNat x).toNat = x by simp; omega] at this

/-- one row of the table is asked. -/
theorem ofNat_eq (x : Nat) (hx : x < 256) (k : Nat) (hk : k < 256) : (UInt8.ofNat x == UInt8.ofNat k) = (x == k) := by
  rw [Bool.eq_iff_iff, beq_iff_eq, beq_iff_eq]
  constructor
  · intro h
    have := congrArg UInt8.toNat h
    simp at this; omega
  · intro h; rw [h]
theorem row1_has (x : Nat) (hx : x < 256) : [1, 10, 6, 7, 8].contains (UInt8.ofNat x) = (x == 1 || x == 10 || x == 6 || x == 7 || x == 8) := by
  have e := ofNat_eq x hx
  simp only [List.contains_cons, List.contains_nil, Bool.or_false, ← Bool.or_assoc]
  rw [← e 1 (by decide), ← e 10 (by decide), ← e 6 (by decide), ← e 7 (by decide), ← e 8 (by decide)]
  rfl
theorem row2_has (x : Nat) (hx : x < 256) : [1, 10, 9].contains (UInt8.ofNat x) = (x == 1 || x == 10 || x == 9) := by
  have e := ofNat_eq x hx
  simp only [List.contains_cons, List.contains_nil, Bool.or_false, ← Bool.or_assoc]
  rw [← e 1 (by decide), ← e 10 (by decide), ← e 9 (by decide)]
  rfl
theorem row0_has (x : Nat) (hx : x < 256) : [1, 10, 2, 3, 4, 5].contains (UInt8.ofNat x) = (x == 1 || x == 10 || x == 2 || x == 3 || x == 4 || x == 5) := by
  have e := ofNat_eq x hx
  simp only [List.contains_cons, List.contains_nil, Bool.or_false, ← Bool.or_assoc]
  rw [← e 1 (by decide), ← e 10 (by decide), ← e 2 (by decide), ← e 3 (by decide), ← e 4 (by decide), ← e 5 (by decide)]
  rfl

theorem bel_alloc1 (w : World) (o : Obj) : Below w.heap.size w (w.alloc o) := (Below.refl _ _).alloc (Nat.le_refl _) o

set_option maxHeartbeats 4000000 in
theorem who_any (ask who seq tok : Nat) (vs vb : Value) (n : Int) (w : World) (ha : ask < 256) (hw : who < 256) (hL : Laid w) :
    Calls Tryd.prog 12 #[.agg #[.int .u8 ask, .int .u8 who, .int .u32 seq, .int .u64 tok, vs, vb], .int .i64 n] w fun e w' => e = .returned (.int .i64 (errI (whoB ask who n) 9)) ∧ Below w.heap.size w w' := by
  have hbb : ∀ o, Below w.heap.size w (w.alloc o) := fun o => (Below.refl _ _).alloc (Nat.le_refl _) o
  by_cases c0 : who = 0
  · obtain ⟨b, off, c, hr, hc⟩ := hL.row1
    have hr1 := fun o => cell_below (hbb o) hr
    have hc1 := fun o i hi => cell_below (hbb o) (hc i hi)
    have hv := row1_has ask ha
    obtain ⟨v, hwv⟩ : ∃ v, whoB ask who n = v := ⟨_, rfl⟩
    have hv' : [1, 10, 6, 7, 8].contains (UInt8.ofNat ask) = v := by rw [hv, ← hwv]; unfold whoB; rw [if_pos c0]
    have HC := Lib.hid hc1
    have HV := Lib.hid hv'
    have HW := Lib.hid hwv
    clear hv hc hc1 hr hL hv' hwv hbb
    subst c0
    cases v
    all_goals
      go_enter Tryd.func12, Tryd.ntmps12
      go_wp2
      go_quiet ((go_at_call 13; exact Calls.quiet_of_same ((contains_nat b off c _ [1, 10, 6, 7, 8] ask _ _ rfl (by decide) ha HV.out (fun i hi => by rw [World.cell?_drewN]; exact HC.out _ i hi)).mono fun _ _ h => ⟨h.1, h.2.symm⟩)))
      go_wp2
      go_ret
      exact ⟨by rw [HW.out]; rfl, below_drewN (bel_alloc1 _ _) _⟩
  have e0 : ((who : Int) == 0) = false := by rw [beq_eq_false_iff_ne]; omega
  by_cases c1 : who = 255
  · obtain ⟨b, off, c, hr, hc⟩ := hL.row2
    have hr1 := fun o => cell_below (hbb o) hr
    have hc1 := fun o i hi => cell_below (hbb o) (hc i hi)
    have hv := row2_has ask ha
    obtain ⟨v, hwv⟩ : ∃ v, whoB ask who n = v := ⟨_, rfl⟩
    have hv' : [1, 10, 9].contains (UInt8.ofNat ask) = v := by rw [hv, ← hwv]; unfold whoB; rw [if_neg c0, if_pos c1]
    have HC := Lib.hid hc1
    have HV := Lib.hid hv'
    have HW := Lib.hid hwv
    clear hv hc hc1 hr hL hv' hwv hbb
    subst c1
    cases v
    all_goals
      go_enter Tryd.func12, Tryd.ntmps12
      go_wp2
      go_quiet ((go_at_call 13; exact Calls.quiet_of_same ((contains_nat b off c _ [1, 10, 9] ask _ _ rfl (by decide) ha HV.out (fun i hi => by rw [World.cell?_drewN]; exact HC.out _ i hi)).mono fun _ _ h => ⟨h.1, h.2.symm⟩)))
      go_wp2
      go_ret
      exact ⟨by rw [HW.out]; rfl, below_drewN (bel_alloc1 _ _) _⟩
  have e1 : ((who : Int) == 255) = false := by rw [beq_eq_false_iff_ne]; omega
  by_cases c2 : n < who
  · have e2 : decide (n < (who : Int)) = true := by simpa using c2
    have HW : Hid (whoB ask who n = false) := Lib.hid (by unfold whoB; rw [if_neg c0, if_neg c1, if_pos c2])
    clear hL hbb c0 c1
    go_enter Tryd.func12, Tryd.ntmps12
    go_wp2
    go_ret
    exact ⟨by rw [HW.out]; rfl, bel_alloc1 _ _⟩
  · obtain ⟨b, off, c, hr, hc⟩ := hL.row0
    have hr1 := fun o => cell_below (hbb o) hr
    have hc1 := fun o i hi => cell_below (hbb o) (hc i hi)
    have hv := row0_has ask ha
    obtain ⟨v, hwv⟩ : ∃ v, whoB ask who n = v := ⟨_, rfl⟩
    have hv' : [1, 10, 2, 3, 4, 5].contains (UInt8.ofNat ask) = v := by rw [hv, ← hwv]; unfold whoB; rw [if_neg c0, if_neg c1, if_neg c2]
    have HC := Lib.hid hc1
    have HV := Lib.hid hv'
    have HW := Lib.hid hwv
    clear hv hc hc1 hr hL hv' hwv hbb
    have e2 : decide (n < (who : Int)) = false := by simpa using c2
    clear c0 c1
    cases v
    all_goals
      go_enter Tryd.func12, Tryd.ntmps12
      go_wp2
      go_quiet ((go_at_call 13; exact Calls.quiet_of_same ((contains_nat b off c _ [1, 10, 2, 3, 4, 5] ask _ _ rfl (by decide) ha HV.out (fun i hi => by rw [World.cell?_drewN]; exact HC.out _ i hi)).mono fun _ _ h => ⟨h.1, h.2.symm⟩)))
      go_wp2
      go_ret
      exact ⟨by rw [HW.out]; rfl, below_drewN (bel_alloc1 _ _) _⟩

theorem who_val (ask who seq tok : Nat) (vs vb : Value) (n v : Int) (w : World) (ha : ask < 256) (hw : who < 256) (hL : Laid w) (hv : errI (whoB ask who n) 9 = v) :
    Calls Tryd.prog 12 #[.agg #[.int .u8 ask, .int .u8 who, .int .u32 seq, .int .u64 tok, vs, vb], .int .i64 n] w fun e w' => e = .returned (.int .i64 v) ∧ Below w.heap.size w w' := hv ▸ who_any ask who seq tok vs vb n w ha hw hL

end Go.Proofs.YteonifhncpnjiaaDoor
