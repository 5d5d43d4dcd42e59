/- phases.Order: what it returns; conditions: those typed. -/
import Derived.Test.YteonifhncpnjiaaDoorInts
import Derived.Test.YteonifhncpnjiaaDoorAppend
import Derived.RegionTactic
namespace Go.Proofs.YteonifhncpnjiaaDoor
open Go.RowKit
set_option linter.unusedVariables false

def swapI (L : List Int) (i j : Nat) : List Int := (L.set i (L.getD j 0)).set j (L.getD i 0)
def ordJ (ds : List UInt8) (n i : Nat) : Nat := (ds.getD (n - 1 - i) 0).toNat % (i + 1)
def ordGo (ds : List UInt8) (n : Nat) : Nat → List Int → List Int
  | 0, L => L
  | i + 1, L => ordGo ds n i (swapI L (i + 1) (ordJ ds n (i + 1)))
def rangeI (n : Nat) : List Int := (List.range n).map Int.ofNat
def orderI (ds : List UInt8) (n : Nat) : List Int := ordGo ds n (n - 1) (rangeI n)
theorem rangeI_length (n : Nat) : (rangeI n).length = n := by simp [rangeI]
theorem swapI_length (L : List Int) (i j : Nat) : (swapI L i j).length = L.length := by simp [swapI]

theorem bel_alloc2 (w : World) (o : Obj) : Below w.heap.size w (w.alloc o) := (Below.refl _ _).alloc (Nat.le_refl _) o

theorem order_bad (D : Array Value) (n : Int) (w : World) (hn : n < 1 ∨ 8 < n) :
    Calls Tryd.prog 10 #[.agg D, .int .i64 n] w fun e w' => e = .returned (.tuple #[.slice none 0 0, .int .i64 1]) ∧ Below w.heap.size w w' := by
  rcases hn with hn | hn
  · go_enter Tryd.func10, Tryd.ntmps10
    go_wp2
    go_ret2
    exact ⟨rfl, bel_alloc2 _ _⟩
  · have h1 : ¬ n < 1 := by omega
    go_enter Tryd.func10, Tryd.ntmps10
    go_wp2
    go_ret2
    exact ⟨rfl, bel_alloc2 _ _⟩

theorem owns_mono {w : World} {b b' e size n : Nat} {v : Value} {xs : List Value} (h : w.ownsRow b e size v n xs) (hb : b' ≤ b) : w.ownsRow b' e size v n xs := by
  refine ⟨h.1, ?_⟩
  rcases h.2 with h1 | ⟨g, cap, cur, hv, hg, h2⟩
  · exact .inl h1
  · exact .inr ⟨g, cap, cur, hv, Nat.le_trans hb hg, h2⟩

theorem range_step (n k : Nat) (h : k < n) : ((rangeI k ++ List.replicate (n - k) 0).set k (k : Int)) = rangeI (k + 1) ++ List.replicate (n - (k + 1)) 0 := by
  have e : n - k = (n - (k + 1)) + 1 := by omega
  rw [e, List.replicate_succ, List.set_append_right _ _ (by simp [rangeI])]
  simp [rangeI, List.range_succ]

set_option maxHeartbeats 2000000 in
theorem order_good (ds : List UInt8) (D : Array Value) (n : Nat) (w : World) (h1 : 1 ≤ n) (h8 : n ≤ 8) (hD : ∀ i, i < 16 → D[i]? = some (.int .u8 (ds.getD i 0).toNat)) :
    Calls Tryd.prog 10 #[.agg D, .int .i64 n] w fun e w' => ∃ g, e = .returned (.tuple #[.slice (some ⟨g, 0, none⟩) n n, .int .i64 0]) ∧ Below w.heap.size w w' ∧ w'.ownsRow w.heap.size 3 1 (.slice (some ⟨g, 0, none⟩) n n) n (icells (orderI ds n)) := by
  obtain ⟨i0, hi, hz0, hz1, hz2⟩ := info_parts infoInt
  have hd1 : decide ((n : Int) < 1) = false := by simp; omega
  have hd2 : decide ((8 : Int) < (n : Int)) = false := by simp; omega
  have hbox : ∀ i, i < 16 → (w.alloc (.cells D 33)).cell? ⟨w.heap.size, i, none⟩ = some (.int .u8 (ds.getD i 0).toNat) := fun i h => by
    rw [cell_of_block (heap_new w _)]; exact hD i h
  have HB := Lib.hid hbox
  clear hbox hD
  go_enter Tryd.func10, Tryd.ntmps10
  go_wp2_with (refine wpList_make_full _ rfl _ _ 34 rfl (w.heap.size + 1) 3 i0 (.int .i64 0) 1 Tryd.underlying34 hi hz0 hz1 .i64 .i64 _ _ n rfl rfl rfl rfl (by rw [hz2]; omega) (by unfold maxLen; omega) (by simp) ?_; intro w1 hown1 hg1)
  rw [show (w.alloc (.cells D 33)).heap.size = w.heap.size + 1 from by simp] at *
  have hb1 : Below (w.heap.size + 1) (w.alloc (.cells D 33)) w1 := (Below.refl _ _).grown hg1 (by simp) (by simp)
  have hl1 : (madeCells (Value.int .i64 0).cells (n * 1)).toList = icells (rangeI 0 ++ List.replicate (n - 0) 0) := by
    simp [Value.cells, toList_madeCells_one, icells, rangeI]
  rw [hl1] at hown1
  clear hl1 hg1
  go_loopw [20] (fun i wr => ∃ k : Nat, k ≤ n ∧ i = .int .i64 k ∧ wr.ownsRow (w.heap.size + 1) 3 1 (.slice (some ⟨w.heap.size + 1, 0, none⟩) n n) n (icells (rangeI k ++ List.replicate (n - k) 0)) ∧ Below (w.heap.size + 1) (w.alloc (.cells D 33)) wr) (fun i _ => n - (intOf i).toNat)
  case atStart => exact ⟨0, Nat.zero_le _, rfl, hown1, hb1⟩
  case round =>
    obtain ⟨k, hk, rfl, hown, hb⟩ := hrel
    clear hown1 hb1
    by_cases hlt : k < n
    · obtain ⟨old, hcell⟩ : ∃ v : Int, wr.cell? ⟨w.heap.size + 1, k, none⟩ = some (.int .i64 v) := ⟨_, owns_icell hown k (by simp [rangeI]; omega)⟩
      have hfr := hown.frozenAt k
      obtain ⟨h2, h3⟩ := hown.stored k (.int .i64 k)
      rw [icells_set, range_step n k hlt] at h2
      have HN := Lib.hid h2
      have HG := Lib.hid h3
      clear h2 h3
      go_wp2
      go_roundw
      case rel => exact ⟨k + 1, by omega, by go_num, HN.out, hb.grown HG.out (by have := hb.size; simp at this; omega) (by simp)⟩
      case measure => simp [intOf]; omega
    · have hkk : k = n := by omega
      subst hkk
      have e0 : rangeI k ++ List.replicate (k - k) 0 = rangeI k := by simp
      rw [e0] at hown
      clear e0
      have hs := hb.size
      clear hlt
      go_wp2
      go_loopw [8] (fun v wq => ∃ (i : Nat) (L : List Int), i ≤ k - 1 ∧ v = .int .i64 i ∧ L.length = k ∧ ordGo ds k i L = orderI ds k ∧ wq.ownsRow (w.heap.size + 1) 3 1 (.slice (some ⟨w.heap.size + 1, 0, none⟩) k k) k (icells L) ∧ Below (w.heap.size + 1) (w.alloc (.cells D 33)) wq) (fun v _ => (intOf v).toNat)
      case atStart => exact ⟨k - 1, rangeI k, Nat.le_refl _, by go_num, rangeI_length k, rfl, hown, hb⟩
      case round =>
        obtain ⟨i, L, hik, rfl, hL, hgo, hownq, hbq⟩ := hrel
        clear hown hb hs
        rcases Nat.eq_zero_or_pos i with rfl | hpos
        · have HO := Lib.hid hgo
          have HL := Lib.hid hL
          clear hgo hL
          go_wp2
          go_ret2
          have e : L = orderI ds k := HO.out
          refine ⟨w.heap.size + 1, rfl, ?_, ?_⟩
          · exact (bel_alloc2 w _).trans (hbq.mono (Nat.le_succ _))
          · rw [← e]
            exact owns_mono hownq (Nat.le_succ _)
        · obtain ⟨dv, hdv⟩ : ∃ d, d = ds.getD (k - 1 - i) 0 := ⟨_, rfl⟩
          have hbx : wr.cell? ⟨w.heap.size, k - 1 - i, none⟩ = some (.int .u8 dv.toNat) := by
            rw [hbq.cell (p := ⟨w.heap.size, k - 1 - i, none⟩) (Nat.lt_succ_self _), HB.out _ (by omega), hdv]
          have hdl := u8_lt dv
          have hji : dv.toNat % (i + 1) < i + 1 := Nat.mod_lt _ (Nat.succ_pos _)
          have hjI : ((dv.toNat : Int) % ((i : Int) + 1)) = ((dv.toNat % (i + 1) : Nat) : Int) := by simp
          have hgo2 : ordGo ds k (i - 1) (swapI L i (dv.toNat % (i + 1))) = orderI ds k := by
            rw [← hgo]
            obtain ⟨m, rfl⟩ : ∃ m, i = m + 1 := ⟨i - 1, by omega⟩
            show _ = ordGo ds k m (swapI L (m + 1) (ordJ ds k (m + 1)))
            unfold ordJ
            rw [← hdv]; rfl
          revert hji hjI hgo2
          generalize dv.toNat % (i + 1) = j
          intro hji hjI hgo2
          have HG := Lib.hid hgo2
          have HL := Lib.hid hL
          have hiL : i < L.length := by omega
          have hjL : j < L.length := by omega
          clear hgo hgo2 hdv hL
          have hci := owns_icell hownq i hiL
          have hcj := owns_icell hownq j hjL
          have hfi := hownq.frozenAt i
          have hfj := hownq.frozenAt j
          have hst := hownq.stored i (.int .i64 L[j])
          have hst2 := hst.1.stored j (.int .i64 L[i])
          rw [icells_set, icells_set] at hst2
          have hsw : (L.set i L[j]).set j L[i] = swapI L i j := by simp [swapI, hiL, hjL]
          rw [hsw] at hst2
          have hb2 := (hbq.grown hst.2 (by have := hbq.size; simp at this; omega) (by simp)).grown hst2.2 (by have := hbq.size; simp at this ⊢; omega) (by simp)
          have HS := Lib.hid hst2.1
          have HB2 := Lib.hid hb2
          have hfj2 := hst.1.frozenAt j
          obtain ⟨v2, hcj2⟩ := cell?_setCell_some (w := wr) (p := ⟨w.heap.size + 1, i, none⟩) (x := .int .i64 L[j]) (q := ⟨w.heap.size + 1, j, none⟩) hcj
          clear hst hst2 hb2 hsw
          go_wp2
          go_region
          go_wp2
          go_roundw
          case rel => exact ⟨i - 1, swapI L i j, by omega, by go_num, by rw [swapI_length]; exact HL.out, HG.out, HS.out, HB2.out.drew⟩
          case measure => simp [intOf]; omega

theorem order_any (ds : List UInt8) (D : Array Value) (n : Int) (w : World) (hD : ∀ i, i < 16 → D[i]? = some (.int .u8 (ds.getD i 0).toNat)) (h1 : 1 ≤ n) (h8 : n ≤ 8) :
    Calls Tryd.prog 10 #[.agg D, .int .i64 n] w fun e w' => ∃ g, e = .returned (.tuple #[.slice (some ⟨g, 0, none⟩) n.toNat n.toNat, .int .i64 0]) ∧ Below w.heap.size w w' ∧ IsI w' (some ⟨g, 0, none⟩) n.toNat n.toNat (orderI ds n.toNat) := by
  obtain ⟨m, rfl⟩ := Int.eq_ofNat_of_zero_le (show 0 ≤ n by omega)
  refine (order_good ds D m w (by omega) (by omega) hD).mono ?_
  rintro e w' ⟨g, he, hb, ho⟩
  refine ⟨g, he, hb, ?_⟩
  have hl : (orderI ds m).length = m := by
    have := ho.1; rw [icells_length] at this; omega
  exact isI_of_owns ho hl.symm

end Go.Proofs.YteonifhncpnjiaaDoor
