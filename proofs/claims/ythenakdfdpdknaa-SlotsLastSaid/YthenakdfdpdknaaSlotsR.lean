/- The package slots: what stands in a place; conditions: those typed. -/
import Derived.Test.YthenakdfdpdknaaSlotsM
import Derived.Test.YthenakdfdpdknaaNumsGet
import Derived.Test.YthenakdfdpdknaaDisksC
import Derived.Test.YthenakdfdpdknaaCellRes
import Derived.Test.YthenakdfdpdknaaAppendZ
namespace Go.Proofs.Ythenakdfdpdknaa
open Go.RowKit
set_option linter.unusedVariables false

def secAt (D : Dsk) (i : Nat) : List UInt8 := D.secs.getD i []
/-- The bytes of k sectors. -/
def run5 (D : Dsk) (at_ : Nat) : Nat → List UInt8
  | 0 => []
  | j + 1 => run5 D at_ j ++ secAt D (at_ + j)
def z54 : List UInt8 := List.replicate 54 0
def numAt (D : Dsk) (p : Nat) : Nat := numOf ((secAt D (p + 5)).take 4)
def manyAt (D : Dsk) (p : Nat) : Nat := numOf (((secAt D (p + 5)).drop 4).take 2)
/-- What stands in the place from sector p on. -/
def place (D : Dsk) (p : Nat) : Nat × List UInt8 :=
  if numAt D p = 0 ∨ 320 < manyAt D p then (0, []) else
  if mkB (numAt D p) ((run5 D p 5).take (manyAt D p)) ++ z54 = secAt D (p + 5) then (numAt D p, (run5 D p 5).take (manyAt D p)) else (0, [])

theorem secAt_length {w : World} {bd bl : Nat} {D : Dsk} (h : IsDisk w bd bl D) (i : Nat) (hi : i < D.secs.length) : (secAt D i).length = 64 := by
  have e1 : secAt D i = D.secs[i] := by unfold secAt; simp [hi]
  rw [e1]
  exact h.secs _ (List.getElem_mem hi)
theorem run5_length {w : World} {bd bl : Nat} {D : Dsk} (h : IsDisk w bd bl D) (p j : Nat) (hj : p + j ≤ D.secs.length) : (run5 D p j).length = 64 * j := by
  induction j with
  | zero => rfl
  | succ j ih =>
    show (run5 D p j ++ secAt D (p + j)).length = _
    rw [List.length_append, ih (by omega), secAt_length h _ (by omega)]
    omega
theorem read_sec (bd bl : Nat) (D : Dsk) (n : Nat) (nI : Int) (w : World) (h : IsDisk w bd bl D) (hI : nI = (n : Int)) (hn : n < D.secs.length) :
    Calls Try.prog 31 #[.pointer (some ⟨bd, 0, none⟩), .int .i64 nI] w fun e w' => ∃ g, e = .returned (.tuple #[.slice (some ⟨g, 0, none⟩) 64 64, .int .i64 0]) ∧ Below w.heap.size w w' ∧ IsB w' (some ⟨g, 0, none⟩) 64 64 (secAt D n) := by
  subst hI
  refine (read_good bd bl D n w h hn).mono ?_
  rintro e w' ⟨g, rfl, hb, _, hr⟩
  have e1 : secAt D n = D.secs[n] := by unfold secAt; simp [hn]
  have h64 : (secAt D n).length = 64 := secAt_length h n hn
  rw [← e1] at hr
  have := hr.isB (by rw [h64]; decide)
  rw [h64] at this
  exact ⟨g, rfl, hb, this⟩

theorem IsB.nonnil {w : World} {a : Option Addr} {n c : Nat} {l : List UInt8} (h : IsB w a n c l) (hl : 0 < l.length) : ∃ b off, a = some ⟨b, off, none⟩ := by
  rcases h.2.2.2 with ⟨h, _⟩ | ⟨b, off, h, _⟩
  · rw [h] at hl; simp at hl
  · exact ⟨b, off, h⟩
/-- A slice of a slice. -/
theorem IsB.sub {w : World} {b off n c : Nat} {l : List UInt8} (h : IsB w (some ⟨b, off, none⟩) n c l) (i m c' : Nat) (hi : i + m ≤ l.length) (hm : m ≤ c') (hc : c' ≤ c) : IsB w (some ⟨b, off + i, none⟩) m c' ((l.drop i).take m) := by
  obtain ⟨rfl, h1, h2, h3⟩ := h
  have hl : ((l.drop i).take m).length = m := by simp; omega
  refine ⟨hl.symm, by omega, Nat.le_trans hc h2, ?_⟩
  rcases h3 with ⟨h, _⟩ | ⟨b', off', h, hlt, hcs⟩
  · left; rw [h]; simp
  · cases h
    right
    refine ⟨_, _, rfl, hlt, fun j hj => ?_⟩
    have := hcs (i + j) (by simp at hj; omega)
    rw [show off + i + j = off + (i + j) by omega, this]
    simp

theorem info_what : (Try.prog.info? 52).map (·.size) = some 2 := by kernel_rfl
theorem one_what0 : ∀ v ∈ [Value.int .u32 0, .slice none 0 0], v.oneCell' = true := by intro v hv; simp at hv; rcases hv with rfl | rfl <;> rfl
theorem one_what (x : Int) (a : Option Addr) (n c : Nat) : ∀ v ∈ [Value.int .u32 x, .slice a n c], v.oneCell' = true := by intro v hv; simp at hv; rcases hv with rfl | rfl <;> rfl
set_option maxRecDepth 100000 in
set_option maxHeartbeats 4000000 in
theorem sread_any (bd bl : Nat) (D : Dsk) (p : Nat) (pI : Int) (w : World) (h : IsDisk w bd bl D) (hI : pI = (p : Int)) (hp : p + 5 < D.secs.length) :
    Calls Try.prog 24 #[.pointer (some ⟨bd, 0, none⟩), .int .i64 pI] w fun e w' => ∃ a c, e = .returned (.agg #[.int .u32 (place D p).1, .slice a (place D p).2.length c]) ∧ Below w.heap.size w w' ∧ IsB w' a (place D p).2.length c (place D p).2 := by
  subst hI
  have hmost := h.most
  have hb0 : Below w.heap.size w (w.alloc (.cells #[.int .u32 0, .slice none 0 0] 52)) := (Below.refl _ _).alloc (Nat.le_refl _) _
  have hcz := heap_new w (.cells #[.int .u32 0, .slice none 0 0] 52 (0, 0))
  have h0 := h.touch (Touch.of_below (S := fun _ => False) hb0) id id
  go_enter Try.func24, Try.ntmps24
  go_wp2_with fail
  generalize w.alloc (.cells #[.int .u32 0, .slice none 0 0] 52) = w0 at hb0 hcz h0 ⊢
  refine (read_sec bd bl D (p + 5) _ w0 h0 (by omega) hp).mono ?_; rintro e w1 ⟨g, rfl, hb1, hi1⟩
  have hbz : w.heap.size < w0.heap.size := lt_of_heap hcz
  generalize hzz : w.heap.size = bz at hcz hbz ⊢
  have hcz1 := below_heap hb1 hcz hbz
  have h1 := h0.touch (Touch.of_below (S := fun _ => False) hb1) id id
  have HB1 := Lib.hid (hb0.trans (hb1.mono hb0.size))
  have hm64 := secAt_length h0 (p + 5) hp
  have hnum : numAt D p < 4294967296 := by
    have := numOf_lt ((secAt D (p + 5)).take 4)
    rw [List.length_take, hm64] at this
    exact this
  have hmany : manyAt D p < 65536 := by
    have := numOf_lt (((secAt D (p + 5)).drop 4).take 2)
    rw [List.length_take, List.length_drop, hm64] at this
    exact this
  have hsub : IsB w1 (some ⟨g, 0 + 4, none⟩) 60 60 (((secAt D (p + 5)).drop 4).take 60) := hi1.sub 4 60 60 (by omega) (Nat.le_refl _) (by decide)
  have hl60 : (((secAt D (p + 5)).drop 4).take 60).length = 60 := by simp [hm64]
  have e4 : numOf ((secAt D (p + 5)).take 4) = numAt D p := rfl
  have e2 : numOf ((((secAt D (p + 5)).drop 4).take 60).take 2) = manyAt D p := by rw [List.take_take]; rfl
  have E4 := Lib.hid e4
  have E2 := Lib.hid e2
  clear e4 e2
  go_wp2_with fail
  refine (nget_any _ 64 4 64 (secAt D (p + 5)) w1 hi1 (by decide) (by decide) (by omega)).mono ?_; rintro e w2 ⟨rfl, hb2⟩
  rw [E4.out]
  go_wp2_with fail
  refine (nget_any _ 60 2 60 (((secAt D (p + 5)).drop 4).take 60) w2 (hsub.below hb2) (by decide) (by decide) (by omega)).mono ?_; rintro e w3 ⟨rfl, hb3⟩
  rw [E2.out]
  have HB3 := Lib.hid ((HB1.out.trans (hb2.mono HB1.out.size)).trans (hb3.mono (Nat.le_trans HB1.out.size hb2.size)))
  have hb13 := hb2.trans (hb3.mono hb2.size)
  have h3 := h1.touch (Touch.of_below (S := fun _ => False) hb13) id id
  have hi3 := hi1.below hb13
  have hcz3 := below_heap hb13 hcz1 (Nat.lt_of_lt_of_le hbz hb1.size)
  have HZ := Lib.hid hzz
  clear hb2 hb3 hb13 hi1 h1 hcz1 hsub hl60 h0 hcz hb1 hb0 h HB1 E4 E2 hzz
  by_cases hA : numAt D p = 0 ∨ 320 < manyAt D p
  · have hpl : place D p = (0, []) := if_pos hA
    have HPL := Lib.hid hpl
    have f0 : w3.cell? ⟨bz, 0, none⟩ = some (.int .u32 0) := by rw [cell_of_block hcz3]; rfl
    have f1 : w3.cell? ⟨bz, 1, none⟩ = some (.slice none 0 0) := by rw [cell_of_block hcz3]; rfl
    have HA := Lib.hid hA
    clear hA hpl hi3 h3 f0 f1
    by_cases hn0 : numAt D p = 0
    · have d0 : ((numAt D p : Int) == 0) = true := by rw [hn0]; rfl
      clear hn0
      go_wp2_with (first
        | (refine wpList_store_whole rfl 52 (.tmp 4) (.tmp 44) rfl bz [.int .u32 0, .slice none 0 0] _ _ hcz3 rfl rfl rfl info_what one_what0 ?_; intro w4 ht4 hg4)
        | fail)
      refine bodyPost_ret (results_cell rfl _ _ bz 0 rfl [.int .u32 0, .slice none 0 0] _ (rangeAt_row hg4) Try.underlying52 rfl info_what) rfl ?_
      rw [HPL.out]
      exact ⟨none, 0, rfl, HB3.out.trans (ht4.below HB3.out.size (fun k hk e => by have := HZ.out; omega)), IsB.nil _⟩
    · have d0 : ((numAt D p : Int) == 0) = false := by rw [beq_eq_false_iff_ne]; omega
      have d1 : decide ((320 : Int) < (manyAt D p : Int)) = true := by rw [decide_eq_true_eq]; have := HA.out; omega
      go_wp2_with (first
        | (refine wpList_store_whole rfl 52 (.tmp 4) (.tmp 44) rfl bz [.int .u32 0, .slice none 0 0] _ _ hcz3 rfl rfl rfl info_what one_what0 ?_; intro w4 ht4 hg4)
        | fail)
      refine bodyPost_ret (results_cell rfl _ _ bz 0 rfl [.int .u32 0, .slice none 0 0] _ (rangeAt_row hg4) Try.underlying52 rfl info_what) rfl ?_
      rw [HPL.out]
      exact ⟨none, 0, rfl, HB3.out.trans (ht4.below HB3.out.size (fun k hk e => by have := HZ.out; omega)), IsB.nil _⟩
  have hA0 : numAt D p ≠ 0 := fun h => hA (.inl h)
  have hA1 : manyAt D p ≤ 320 := by omega
  have d0 : ((numAt D p : Int) == 0) = false := by rw [beq_eq_false_iff_ne]; omega
  have d1 : decide ((320 : Int) < (manyAt D p : Int)) = false := by rw [decide_eq_false_iff_not]; omega
  have hbz3 : bz < w3.heap.size := lt_of_heap hcz3
  have HP : Hid (p + 5 < D.secs.length ∧ D.secs.length ≤ 1024) := Lib.hid ⟨hp, hmost⟩
  have HA := Lib.hid hA
  clear hA
  obtain ⟨N, hN⟩ : ∃ N, N = 5 := ⟨_, rfl⟩
  have HN := Lib.hid hN
  clear hN
  go_wp2_with fail
  go_loopw [45, 11] (fun i s wr => ∃ j : Nat, ∃ m b' c', j ≤ 5 ∧ m = 64 * j ∧ i = .int .i64 j ∧ s = .slice b' m c' ∧ wr.ownsRow w3.heap.size 5 1 (.slice b' m c') m (bcells (run5 D p j)) ∧ Below w3.heap.size w3 wr) (fun i _ _ => N - (intOf i).toNat)
  case atStart => exact ⟨0, 0, none, 0, by omega, rfl, rfl, rfl, World.ownsRow_nil _ _ _ _, Below.refl _ _⟩
  case round =>
    obtain ⟨j, m, b', c', hj, hm, rfl, rfl, hown, hbw⟩ := hrel
    have HM := Lib.hid hm
    have hm320 : m ≤ 320 := by omega
    by_cases hlt : j < 5
    · have hd' := h3.touch (Touch.of_below (S := fun _ => False) hbw) id id
      have hr1 : Hid (run5 D p (j + 1) = run5 D p j ++ secAt D (p + j)) := Lib.hid rfl
      have hpj : p + j < D.secs.length := by omega
      clear hm
      go_wp2_with fail
      refine (read_sec bd bl D (p + j) _ wr hd' (by omega) hpj).mono ?_; rintro e w4 ⟨g4, rfl, hb4, hi4⟩
      have h64 := secAt_length hd' (p + j) hpj
      have hown4 := owns_below hown hb4
      have hat4 := hi4.at
      have hbl : (bcells (secAt D (p + j))).length = 64 * 1 := by rw [bcells_length, h64]
      have hb4' := hbw.trans (hb4.mono hbw.size)
      clear hown hi4 hb4 hd' hbw
      go_wp2_with (at_builtin; refine wpList_append_any rowU8 rfl _ _ rfl w3.heap.size _ m (bcells (run5 D p j)) rfl hown4 (some ⟨g4, 0, none⟩) 64 64 (bcells (secAt D (p + j))) rfl hbl hat4 (bcells_one _) (by unfold maxLen; omega) (by omega) hb4'.size ?_; intro b5 c5 w5 hown5 hg5 hat5)
      rw [← bcells_append, ← hr1.out] at hown5
      have hb5 := hb4'.grown hg5 hb4'.size (fun i hi => owns_base hown4 i hi)
      clear hown4 hat4 hg5 hat5 hbl
      go_roundw
      case rel => exact ⟨j + 1, m + 64, b5, c5, by omega, by have := HM.out; omega, by go_num, rfl, hown5, hb5⟩
      case measure => have := HN.out; simp [intOf]; omega
    · have hj5 : j = 5 := by omega
      subst hj5
      have hm5 : m = 320 := by rw [hm]
      subst hm5
      have hlen5 := run5_length h3 p 5 (by omega)
      have hi5 := isB_of_owns hown (by rw [hlen5])
      have hc5 : 320 ≤ c' := by have := hi5.2.1; omega
      obtain ⟨g5, hg5⟩ : ∃ g5, b' = some ⟨g5, 0, none⟩ := by
        rcases hown.2 with ⟨_, h⟩ | ⟨g5, _, _, h, _⟩
        · cases h
        · exact ⟨g5, by cases h; rfl⟩
      subst hg5
      have hgb : w3.heap.size ≤ g5 := owns_base hown g5 rfl
      have hsb := hi5.sub 0 (manyAt D p) (manyAt D p) (by omega) (Nat.le_refl _) (by omega)
      rw [List.drop_zero, Nat.add_zero] at hsb
      have hcr := below_heap hbw hcz3 hbz3
      have hir := hi3.below hbw
      have e32 : IntKind.u32.wrap (numAt D p : Int) = (numAt D p : Int) := by rw [IntKind.wrap_u32]; omega
      have hsl : ((run5 D p 5).take (manyAt D p)).length = manyAt D p := by rw [List.length_take, hlen5]; omega
      clear hm hown hi5 hi3 hcz3 h3
      go_wp2_with fail
      have hsp : Below wr.heap.size wr (wr.alloc (.cells #[.int .u32 (numAt D p), .slice (some ⟨g5, 0, none⟩) (manyAt D p) (manyAt D p)] 52)) := (Below.refl _ _).alloc (Nat.le_refl _) _
      have hv := heap_new wr (.cells #[.int .u32 (numAt D p), .slice (some ⟨g5, 0, none⟩) (manyAt D p) (manyAt D p)] 52 (0, 0))
      have hbr : bz < wr.heap.size := lt_of_heap hcr
      have HBr := Lib.hid (HB3.out.trans (hbw.mono HB3.out.size))
      have HW : Hid (wr.heap[bz]? = some (.cells #[.int .u32 0, .slice none 0 0] 52 (0, 0)) ∧ IsB wr (some ⟨g, 0, none⟩) 64 64 (secAt D (p + 5)) ∧ IsB wr (some ⟨g5, 0, none⟩) (manyAt D p) (manyAt D p) ((run5 D p 5).take (manyAt D p))) := Lib.hid ⟨hcr, hir, hsb⟩
      clear hcr hbw
      generalize wr.alloc (.cells #[.int .u32 (numAt D p), .slice (some ⟨g5, 0, none⟩) (manyAt D p) (manyAt D p)] 52) = v0 at hsp hv ⊢
      refine (mark_any (numAt D p) hnum (some ⟨g5, 0, none⟩) (manyAt D p) (manyAt D p) ((run5 D p 5).take (manyAt D p)) v0 (hsb.below hsp) (by omega)).mono ?_; rintro e v1 ⟨a1, rfl, hb1, hi1⟩
      obtain ⟨mb, mo, rfl⟩ := hi1.nonnil (by rw [mkB_length]; decide)
      clear hir hsb
      go_wp2_with (first
        | (at_builtin; refine wpList_append_zeros_full rfl _ _ 3 rfl .i64 .i64 Try.underlying3 mb mo 10 _ rfl hi1 54 54 rfl rfl (by decide) (by decide) ?_; intro c2 v2 hi2 hb2)
        | fail)
      have hb02 := hsp.trans ((hb1.trans (hb2.mono hb1.size)).mono hsp.size)
      have hir := HW.out.2.1.below hb02
      have hb12 := hb1.trans (hb2.mono hb1.size)
      refine (sequal_any _ _ _ _ c2 64 _ _ v2 hi2 hir).mono ?_
      rintro e v3 ⟨rfl, j, rfl⟩
      have hq := below_drewN (Below.refl v2.heap.size v2) j
      have hb03 := hb02.trans (hq.mono hb02.size)
      have hb13 := hb12.trans (hq.mono hb12.size)
      have hv3 := below_heap hb13 hv (lt_of_heap hv)
      have hcr3 := below_heap hb03 HW.out.1 hbr
      have HB33 := Lib.hid (HBr.out.trans (hb03.mono HBr.out.size))
      have hsb3 := Lib.hid (HW.out.2.2.below hb03)
      have HV := Lib.hid hv3
      clear hb02 hir hb12 hq hb03 hb13 hv hi1 hi2 hb1 hb2 hsp HW
      generalize v2.drewN j = v3 at hcr3 HB33 hsb3 HV ⊢
      by_cases hqq : mkB (numAt D p) ((run5 D p 5).take (manyAt D p)) ++ z54 = secAt D (p + 5)
      · have hpl : place D p = (numAt D p, (run5 D p 5).take (manyAt D p)) := by unfold place; rw [if_neg HA.out, if_pos hqq]
        have HPL := Lib.hid hpl
        have hdq : decide (mkB (numAt D p) ((run5 D p 5).take (manyAt D p)) ++ List.replicate 54 0 = secAt D (p + 5)) = true := decide_eq_true hqq
        rw [hdq]
        clear hqq hdq hpl
        go_wp2_with (first
          | (refine wpList_load_mid rfl 52 (.tmp 15) rfl wr.heap.size 0 rfl [.int .u32 (numAt D p), .slice (some ⟨g5, 0, none⟩) (manyAt D p) (manyAt D p)] _ (rangeAt_row HV.out) Try.underlying52 rfl info_what ?_)
          | (refine wpList_store_whole rfl 52 (.tmp 4) (.tmp 74) rfl bz [.int .u32 (numAt D p), .slice (some ⟨g5, 0, none⟩) (manyAt D p) (manyAt D p)] _ _ hcr3 rfl rfl rfl info_what (one_what _ _ _ _) ?_; intro w4 ht4 hg4)
          | fail)
        refine bodyPost_ret (results_cell rfl _ _ bz 0 rfl [.int .u32 (numAt D p), .slice (some ⟨g5, 0, none⟩) (manyAt D p) (manyAt D p)] _ (rangeAt_row hg4) Try.underlying52 rfl info_what) rfl ?_
        rw [HPL.out]
        refine ⟨some ⟨g5, 0, none⟩, manyAt D p, by rw [hsl], HB33.out.trans (ht4.below HB33.out.size (fun k hk e => by have := HZ.out; omega)), ?_⟩
        rw [hsl]
        exact hsb3.out.touch ht4 (fun b off h _ e => by cases h; omega)
      · have hpl : place D p = (0, []) := by unfold place; rw [if_neg HA.out, if_neg hqq]
        have HPL := Lib.hid hpl
        have hdq : decide (mkB (numAt D p) ((run5 D p 5).take (manyAt D p)) ++ List.replicate 54 0 = secAt D (p + 5)) = false := decide_eq_false hqq
        rw [hdq]
        clear hqq hdq hpl
        go_wp2_with (first
          | (refine wpList_store_whole rfl 52 (.tmp 4) (.tmp 73) rfl bz [.int .u32 0, .slice none 0 0] _ _ hcr3 rfl rfl rfl info_what one_what0 ?_; intro w4 ht4 hg4)
          | fail)
        refine bodyPost_ret (results_cell rfl _ _ bz 0 rfl [.int .u32 0, .slice none 0 0] _ (rangeAt_row hg4) Try.underlying52 rfl info_what) rfl ?_
        rw [HPL.out]
        exact ⟨none, 0, rfl, HB33.out.trans (ht4.below HB33.out.size (fun k hk e => by have := HZ.out; omega)), IsB.nil _⟩

end Go.Proofs.Ythenakdfdpdknaa
