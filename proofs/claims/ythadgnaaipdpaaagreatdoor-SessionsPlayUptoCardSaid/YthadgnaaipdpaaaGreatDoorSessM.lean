/- The package sessions: Login with the right secret; conditions: those typed. -/
import Derived.Test.YthadgnaaipdpaaaGreatDoorSessL
import Derived.Laws.BitsAllLaws
namespace Go.Proofs.YthadgnaaipdpaaaGreatDoor
open Go.RowKit
set_option linter.unusedVariables false
set_option maxRecDepth 100000

/-- The first j bytes of a draw, as a number. -/
def tokN (d : List UInt8) : Nat → Nat
  | 0 => 0
  | j + 1 => tokN d j + (d.getD j 0).toNat * 2 ^ (8 * j)
theorem tokN_lt (d : List UInt8) (j : Nat) : tokN d j < 2 ^ (8 * j) := by
  induction j with
  | zero => simp [tokN]
  | succ j ih =>
    have h := (d.getD j 0).toNat_lt
    have e : 2 ^ (8 * (j + 1)) = 2 ^ (8 * j) * 256 := by rw [Nat.mul_succ, Nat.pow_add]
    have h2 : (d.getD j 0).toNat * 2 ^ (8 * j) ≤ 255 * 2 ^ (8 * j) := Nat.mul_le_mul_right _ (by omega)
    rw [e]
    unfold tokN
    omega
theorem tokN_64 (d : List UInt8) (j : Nat) (hj : j ≤ 8) : tokN d j < 18446744073709551616 :=
  Nat.lt_of_lt_of_le (tokN_lt d j) (Nat.le_trans (Nat.pow_le_pow_right (by decide) (show 8 * j ≤ 64 by omega)) (by decide))
theorem tokN_step (d : List UInt8) (j : Nat) (hj : j < 8) (hd : j < d.length) :
    bits .or .u64 (tokN d j : Int) (IntKind.u64.wrap (IntKind.u64.wrap (d[j].toNat : Int) * 2 ^ (8 * j))) = (tokN d (j + 1) : Int) := by
  have hlt := tokN_lt d j
  have h1 := tokN_64 d (j + 1) (by omega)
  have e : tokN d (j + 1) = tokN d j + d[j].toNat * 2 ^ (8 * j) := by show tokN d j + (d.getD j 0).toNat * 2 ^ (8 * j) = _; simp [hd]
  have h3 := d[j].toNat_lt
  have hw : IntKind.u64.wrap (d[j].toNat : Int) = (d[j].toNat : Int) := by rw [IntKind.wrap_u64]; omega
  have hp : (2 : Int) ^ (8 * j) = ((2 ^ (8 * j) : Nat) : Int) := by simp
  rw [hw, hp, ← Int.natCast_mul]
  generalize hY : d[j].toNat * 2 ^ (8 * j) = Y at e
  have hw2 : IntKind.u64.wrap (Y : Int) = (Y : Int) := by rw [IntKind.wrap_u64]; omega
  rw [hw2, u64_or_nat _ _ (by omega) (by omega), e]
  congr 1
  rw [← hY, Nat.mul_comm, Nat.or_comm, ← Nat.two_pow_add_eq_or_of_lt hlt, Nat.add_comm]
/-- A token of a draw. -/
def tok (d : List UInt8) : UInt64 := if tokN d 8 = 0 then 1 else UInt64.ofNat (tokN d 8)
theorem tok_val (d : List UInt8) : ((tok d).toNat : Int) = if tokN d 8 = 0 then 1 else (tokN d 8 : Int) := by
  have h := tokN_64 d 8 (by omega)
  unfold tok
  split
  · rfl
  · simp; omega
theorem tok_pos (d : List UInt8) : tok d ≠ 0 := by
  intro h
  have := tok_val d
  rw [h] at this
  split at this
  · cases this
  · simp at this; omega

theorem fput_same {K : Type} [DecidableEq K] (f : K → Option Value) (k : K) (v : Value) : fput f k v k = some v := if_pos rfl
theorem tok_put (s : UInt8 → Option UInt64) (k : UInt8) (n : UInt64) : fput (fdel (tokF s) k) k (.int .u64 n.toNat) = tokF (fun j => if j = k then some n else s j) := by
  funext j
  unfold fput fdel tokF
  by_cases h : j = k
  · simp [h]
  · simp [h]
theorem MapF.only {w : World} {b : Nat} {f : UInt8 → Option Value} (h : MapF uk w b f) : MapsOnly (fun k => k = b) w := fun k hk => by subst hk; exact h.block
theorem login_end {w w0 w1 w2 : World} {bt b1 b2 b3 : Nat} {T : Tbl} {s : UInt8 → Option UInt64} (H : IsTbl w0 bt b1 b2 b3 T) (HB : Below w.heap.size w w0) (hd2 : MapF uk w2 b2 (tokF s)) (ht1 : Touch (fun k => k = b2) w0 w1) (ht2 : Touch (fun k => k = b2) w1 w2) :
    Touch (fun k => k = b2) w w2 ∧ IsTbl w2 bt b1 b2 b3 { T with tokens := s } := by
  have ht := ht1.trans ht2
  have hmo : MapsOnly (fun k => k = b2) w0 := H.m2.only
  refine ⟨(Touch.of_below HB).trans ht, ?_⟩
  obtain ⟨f, hf, hr⟩ := H.m1
  obtain ⟨g, hg, hs⟩ := H.m3
  exact ⟨H.n12, H.n13, H.n23, ht.heap H.cells (hmo.cells H.cells), ⟨f, hf.touch uk ht H.n12, hr.keep ht hmo⟩, hd2, ⟨g, hg.touch uk ht (Ne.symm H.n23), hs.keep ht hmo⟩⟩

set_option maxHeartbeats 1000000 in
theorem login_yes (bt b1 b2 b3 : Nat) (T : Tbl) (k : UInt8) (a : Option Addr) (n c : Nat) (l : List UInt8) (d : List UInt8) (w : World) (h : IsTbl w bt b1 b2 b3 T) (hl : IsB w a n c l) (hn : T.knows k l) (hd : d.length = 16) :
    Calls Tryz.prog 11 #[.pointer (some ⟨bt, 0, none⟩), .int .u8 k.toNat, .slice a n c, drawV d] w fun e w' => e = .returned (.tuple #[.int .u64 (tok d).toNat, .int .i64 0]) ∧ Touch (fun k => k = b2) w w' ∧ IsTbl w' bt b1 b2 b3 { T with tokens := fun j => if j = k then some (tok d) else T.tokens j } := by
  obtain rfl := hl.1
  unfold drawV
  have hb : Below w.heap.size w (w.alloc (.cells (d.map fun b => Value.int .u8 b.toNat).toArray 30)) := (Below.refl _ _).alloc (Nat.le_refl _) _
  have hcd : ∀ i (hi : i < d.length), (w.alloc (.cells (d.map fun b => Value.int .u8 b.toNat).toArray 30)).cell? ⟨w.heap.size, i, none⟩ = some (.int .u8 d[i].toNat) := fun i hi => by
    rw [cell_of_block (heap_new w _)]; simp [hi]
  have h' := h.below hb
  have hl' := hl.below hb
  clear h hl
  obtain ⟨f0, f1, f2⟩ := h'.field
  obtain ⟨f, hm1, hr⟩ := h'.m1
  have HH := Lib.hid h'
  have hm2 := h'.m2
  clear h'
  have HB := Lib.hid hb
  clear hb
  have hk := hr k
  obtain ⟨hs, hne⟩ := hn
  rw [hs] at hk
  obtain ⟨a2, c2, hf, hb2, _⟩ := hk
  have HT := Lib.hid hf
  clear hf hr hs
  have e0 : ((l.length : Int) == 0) = false := by rw [beq_eq_false_iff_ne]; have := List.length_pos_iff.2 hne; omega
  have hq : decide (l = l) = true := decide_eq_true rfl
  clear hne
  go_enter Tryz.func11, Tryz.ntmps11
  go_wp2_with (first
    | (go_at_call 32; refine (there_ok bt b1 b2 b3 T _ HH.out).mono ?_; rintro e w' ⟨rfl, rfl⟩)
    | (at_lookup; refine wpList_lookup_f uk rfl _ _ 70 true rfl 24 Tryz.underlying70 (zeroBs _) b1 _ rfl hm1 k rfl ?_; rw [HT.out]; simp only [Option.getD_some, Option.isSome_some, if_true])
    | (go_at_call 33; refine (bequal_any _ _ _ _ _ _ l l _ hb2 hl').mono ?_; rintro e w' ⟨rfl, rfl⟩)
    | fail)
  generalize w.alloc (.cells (d.map fun b => Value.int .u8 b.toNat).toArray 30) = w0 at f0 f1 f2 hcd hm1 hm2 hb2 hl' HH HB ⊢
  go_loop [39, 12] (fun i v => ∃ j : Nat, j ≤ 8 ∧ i = .int .i64 j ∧ v = .int .u64 (tokN d j)) (fun i _ => 8 - (intOf i).toNat)
  case atStart => exact ⟨0, by omega, rfl, rfl⟩
  case round =>
    obtain ⟨j, hj, rfl, rfl⟩ := hrel
    by_cases hlt : j < 8
    · have hc := hcd j (by omega)
      have hst := tokN_step d j hlt (by omega)
      have HST := Lib.hid hst
      clear hcd hst
      go_wp2_with fail
      go_round
      case rel => exact ⟨j + 1, by omega, by go_num, by rw [HST.out]⟩
      case measure => simp [intOf]; omega
    · have hj8 : j = 8 := by omega
      subst hj8
      have hj9 := tokN_64 d 8 (by omega)
      clear hcd
      have hmo : MapsOnly (fun k => k = b2) w0 := fun k hk => by subst hk; exact hm2.block
      have HM := Lib.hid hmo
      clear hmo
      have hkk := tok_val d
      have HK := Lib.hid hkk
      clear hkk
      by_cases hz : (tokN d 8 : Int) < 1
      · have hkk : ((tok d).toNat : Int) = 1 := by rw [HK.out]; rw [if_pos (by omega)]
        have HV := Lib.hid hkk
        clear hkk
        go_wp2_with (first
          | (at_delete; refine wpList_delete_f uk rfl _ _ 71 rfl 25 Tryz.underlying71 b2 _ rfl hm2 k rfl ?_; intro w1 hd1 ht1; have g1 := ht1.cell f1 (HM.out.cell f1))
          | (at_mapUpdate; refine wpList_store_f uk rfl _ _ _ 71 rfl 25 Tryz.underlying71 b2 _ rfl hd1 k (.int .u64 (1)) rfl rfl ?_; intro w2 hd2 ht2; have g2 := ht2.cell g1 ((hd1.only).cell g1))
          | (at_lookup; refine wpList_lookup_f uk rfl _ _ 71 false rfl 25 Tryz.underlying71 (zeroU64 _) b2 _ rfl hd2 k rfl ?_; rw [fput_same]; simp only [Option.getD_some, Bool.false_eq_true, if_false])
          | fail)
        go_ret2
        rw [← HV.out] at hd2 ⊢
        rw [tok_put] at hd2
        exact ⟨rfl, login_end HH.out HB.out hd2 ht1 ht2⟩
      · have hkk : ((tok d).toNat : Int) = (tokN d 8 : Int) := by rw [HK.out]; rw [if_neg (by omega)]
        have HV := Lib.hid hkk
        clear hkk
        go_wp2_with (first
          | (at_delete; refine wpList_delete_f uk rfl _ _ 71 rfl 25 Tryz.underlying71 b2 _ rfl hm2 k rfl ?_; intro w1 hd1 ht1; have g1 := ht1.cell f1 (HM.out.cell f1))
          | (at_mapUpdate; refine wpList_store_f uk rfl _ _ _ 71 rfl 25 Tryz.underlying71 b2 _ rfl hd1 k (.int .u64 (tokN d 8 : Int)) rfl rfl ?_; intro w2 hd2 ht2; have g2 := ht2.cell g1 ((hd1.only).cell g1))
          | (at_lookup; refine wpList_lookup_f uk rfl _ _ 71 false rfl 25 Tryz.underlying71 (zeroU64 _) b2 _ rfl hd2 k rfl ?_; rw [fput_same]; simp only [Option.getD_some, Bool.false_eq_true, if_false])
          | fail)
        go_ret2
        rw [← HV.out] at hd2 ⊢
        rw [tok_put] at hd2
        exact ⟨rfl, login_end HH.out HB.out hd2 ht1 ht2⟩

end Go.Proofs.YthadgnaaipdpaaaGreatDoor
