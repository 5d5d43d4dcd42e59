/- The document's disk: Copy; conditions: those typed. -/
import Derived.Test.YtppmpgkkegldnaaDoorRefN
namespace Go.Proofs.YtppmpgkkegldnaaDoor
open Go.RowKit
set_option linter.unusedVariables false
set_option linter.unusedSimpArgs false
set_option maxRecDepth 100000

/-- A sector's own block holds other bytes. -/
theorem IsRef.setRow {w w' : World} {B rd rl rc : Nat} {R : Dsk} (h : IsRef w B rd rl rc R) (n : Nat) (hn : n < R.secs.length) (g : Nat) (hc : w.cell? ⟨rl, n, none⟩ = some (sl64 g)) (x : List UInt8) (hx : x.length = 64) (ht : Touch (fun k => k = g) w w') (hg : RowB w' g x) :
    IsRef w' B rd rl rc { R with secs := R.secs.set n x } := by
  obtain ⟨gs, g1, g2, g3, g4⟩ := h.row
  have hcell : ∀ i (hi : i < gs.length), w.cell? ⟨rl, i, none⟩ = some (sl64 gs[i]) := fun i hi => cells_of_owns g2 i _ (by rw [List.getElem?_map, List.getElem?_eq_getElem hi]; rfl)
  have hgn : gs[n]'(by omega) = g := by
    have := (hcell n (by omega)).symm.trans hc
    unfold sl64 at this
    simpa using this
  have hgr := (g3 n (by omega) hn).1
  rw [hgn] at hgr
  refine ⟨h.le, by simpa using h.pos, by simpa using h.most, fun s hs => ?_, ?_, gs, by simpa using g1, ?_, fun i hi hi' => ?_, g4⟩
  · rcases List.mem_or_eq_of_mem_set hs with hs | hs
    · exact h.secs s hs
    · rw [hs]; exact hx
  · have := ht.heap h.cells (fun e => by
      unfold RowB at hgr
      rw [← e, h.cells] at hgr
      have := (Obj.cells.inj (Option.some.inj hgr)).2.1
      revert this; decide)
    simpa using this
  · have := owns_touch g2 ht (fun k hk e => by
      obtain ⟨cur, hc2⟩ := owns_block g2 hk
      unfold RowB at hgr
      rw [e, hgr] at hc2
      have := (Obj.cells.inj (Option.some.inj hc2)).2.1
      revert this; decide)
    simpa using this
  · have hi3 : i < R.secs.length := by simpa using hi'
    by_cases hin : n = i
    · subst hin
      simp only [List.getElem_set_self]
      exact ⟨by rw [hgn]; exact hg, (g3 n hi hi3).2⟩
    · simp only [List.getElem_set_ne hin]
      exact ⟨ht.heap (g3 i hi hi3).1 (fun e => g4 n i (by omega) hi hin (by rw [hgn, e])), (g3 i hi hi3).2⟩
theorem IsRef.other {w : World} {B rd rl rc n g : Nat} {R : Dsk} {x : List UInt8} (h : IsRef w B rd rl rc R) (hg : RowB w g x) : rd ≠ g ∧ rl ≠ g := by
  obtain ⟨gs, g1, g2, g3, g4⟩ := h.row
  unfold RowB at hg
  constructor
  · intro e
    rw [← e, h.cells] at hg
    have := (Obj.cells.inj (Option.some.inj hg)).2.1
    revert this; decide
  · intro e
    obtain ⟨cur, hc2⟩ := owns_block g2 (k := rl) rfl
    rw [e, hg] at hc2
    have := (Obj.cells.inj (Option.some.inj hc2)).2.1
    revert this; decide

/-- The first k sectors are copied. -/
def half (L : List (List UInt8)) (k : Nat) : List (List UInt8) := L.take k ++ List.replicate (L.length - k) zsec
theorem half_length (L : List (List UInt8)) (k : Nat) (h : k ≤ L.length) : (half L k).length = L.length := by unfold half; simp; omega
theorem half_set (L : List (List UInt8)) (k : Nat) (h : k < L.length) : (half L k).set k L[k] = half L (k + 1) := by
  unfold half
  rw [List.set_append_right _ _ (by simp; omega)]
  rw [show L.length - k = (L.length - (k + 1)) + 1 by omega, List.replicate_succ, List.length_take, Nat.min_eq_left (by omega), Nat.sub_self, List.set_cons_zero, List.take_succ_eq_append_getElem h, List.append_assoc]
  rfl
theorem half_all (L : List (List UInt8)) : half L L.length = L := by unfold half; simp
theorem half_nil (L : List (List UInt8)) : half L 0 = List.replicate L.length zsec := by unfold half; simp

set_option maxHeartbeats 4000000 in
theorem rcopy_any (B rd rl rc : Nat) (R : Dsk) (w : World) (h : IsRef w B rd rl rc R) :
    Calls Tryd.prog 18 #[.pointer (some ⟨rd, 0, none⟩)] w fun e w' => ∃ cd cl cc, e = .returned (.pointer (some ⟨cd, 0, none⟩)) ∧ Below w.heap.size w w' ∧ IsRef w' w.heap.size cd cl cc ⟨R.secs, -1, false, 0⟩ := by
  obtain ⟨f0, f1, f2, f3⟩ := h.field
  have H := Lib.hid h
  clear h f1 f2 f3
  go_enter Tryd.func18, Tryd.ntmps18
  go_wp2_with fail
  refine (rnew_good R.secs.length w H.out.pos H.out.most).mono ?_; rintro e w1 ⟨cd, cl, cc, rfl, hb1, hc1⟩
  rw [← half_nil] at hc1
  have HB1 := Lib.hid hb1
  have HC1 := Lib.hid hc1
  clear hb1 hc1 f0
  go_wp2_with fail
  obtain ⟨M, hM⟩ : ∃ M, M = R.secs.length := ⟨_, rfl⟩
  have HM := Lib.hid hM
  have hmost : M ≤ 1024 := by rw [hM]; exact H.out.most
  clear hM
  go_loopw [5] (fun i wr => ∃ k, k ≤ M ∧ i = .int .i64 (k : Nat) ∧ Hid (Below w.heap.size w wr) ∧ Hid (IsRef wr w.heap.size cd cl cc ⟨half R.secs k, -1, false, 0⟩)) (fun i _ => M - (intOf i).toNat)
  case atStart => exact ⟨0, Nat.zero_le _, rfl, HB1, HC1⟩
  case round =>
    obtain ⟨k, hk, rfl, HB, HC⟩ := hrel
    have HR : Hid (IsRef wr B rd rl rc R) := Lib.hid (H.out.below HB.out)
    have f0 : wr.cell? ⟨rd, 0, none⟩ = some (.slice (some ⟨rl, 0, none⟩) M rc) := by rw [HM.out]; exact HR.out.field.1
    by_cases hlt : k < M
    · have hkR : k < R.secs.length := by rw [← HM.out]; exact hlt
      have hkc : k < (half R.secs k).length := by rw [half_length _ _ (by omega)]; exact hkR
      have c0 : wr.cell? ⟨cd, 0, none⟩ = some (.slice (some ⟨cl, 0, none⟩) M cc) := by
        have := HC.out.field.1
        dsimp only at this
        rwa [half_length _ _ (by omega), ← HM.out] at this
      obtain ⟨g, c1, hg⟩ := HC.out.sec k hkc
      obtain ⟨q, f1, hq⟩ := HR.out.sec k hkR
      have h64 := H.out.secs _ (List.getElem_mem hkR)
      have hne1 := HC.out.other (n := 0) hg
      have hne2 := HR.out.other (n := 0) hg
      have HG := Lib.hid hg
      have hzl : (half R.secs k)[k].length = 64 := HC.out.secs _ (List.getElem_mem hkc)
      obtain ⟨z, hz⟩ : ∃ z, z = (half R.secs k)[k] := ⟨_, rfl⟩
      have hgd : wr.drew.heap[g]? = some (.cells (bcells z).toArray 5 (0, 0)) := by rw [hz]; exact hg
      rw [← hz] at hzl
      have hgd' : wr.heap[g]? = some (.cells (bcells z).toArray 5 (0, 0)) := hgd
      have hat : At wr (some ⟨q, 0, none⟩) (bcells R.secs[k]) := At.of_cells fun j hj => by
        rw [Nat.zero_add, cell_of_block hq, List.getElem?_toArray, List.getElem?_eq_getElem hj]
      have hatd : At wr.drew (some ⟨q, 0, none⟩) (bcells R.secs[k]) := hat
      obtain ⟨cs, hcs⟩ : ∃ cs, cs = bcells R.secs[k] := ⟨_, rfl⟩
      rw [← hcs] at hat hatd
      have HO : Hid (∀ v ∈ cs, v.oneCell' = true) := Lib.hid (by rw [hcs]; exact bcells_one _)
      have hln : Hid (cs.length = Nat.min 64 64 * 1) := Lib.hid (by rw [hcs, bcells_length, h64]; rfl)
      have hfit : 0 + cs.length ≤ (bcells z).toArray.size := by rw [hcs, List.size_toArray, bcells_length, bcells_length, h64, hzl]; decide
      have HCS := Lib.hid hcs
      have H64 := Lib.hid h64
      have hZL := Lib.hid hzl
      have C1 := Lib.hid c1
      have K : Hid (∀ {u : World}, Touch (fun k => k = g) wr u → u.cell? ⟨cd, 0, none⟩ = some (.slice (some ⟨cl, 0, none⟩) M cc) ∧ u.cell? ⟨cl, k, none⟩ = some (.slice (some ⟨g, 0, none⟩) 64 64) ∧ u.cell? ⟨rd, 0, none⟩ = some (.slice (some ⟨rl, 0, none⟩) M rc) ∧ u.cell? ⟨rl, k, none⟩ = some (.slice (some ⟨q, 0, none⟩) 64 64)) := Lib.hid (fun ht => ⟨ht.cell c0 hne1.1, ht.cell c1 hne1.2, ht.cell f0 hne2.1, ht.cell f1 hne2.2⟩)
      clear hg hq h64 hz hzl hcs hne1 hne2
      go_wp2_with fail
      go_region_held3 (fun w' => w'.cell? ⟨cd, 0, none⟩ = some (.slice (some ⟨cl, 0, none⟩) M cc) ∧ w'.cell? ⟨cl, k, none⟩ = some (.slice (some ⟨g, 0, none⟩) 64 64) ∧ w'.cell? ⟨rd, 0, none⟩ = some (.slice (some ⟨rl, 0, none⟩) M rc) ∧ w'.cell? ⟨rl, k, none⟩ = some (.slice (some ⟨q, 0, none⟩) 64 64)) (first | go_keep | exact K.out hT2) (first
        | (refine step_copy_any rowU8 rfl (.tmp 30) (.tmp 37) 42 (by rfl) (some ⟨g, 0, none⟩) (some ⟨q, 0, none⟩) 64 64 64 64 (by simp [Act.eval]) (by simp [Act.eval]) g 0 (bcells z).toArray 5 (by first | exact hgd | exact hgd') cs hln.out (fun _ => rfl) (by first | exact hat | exact hatd) hfit HO.out ?_; intro w2 hg2 ht2; have hT2 : Touch (fun k => k = g) wr w2 := (by first | exact ht2 | exact (Touch.refl _ wr).drew.trans ht2))
        | fail)
      have er : (List.take 0 (bcells z).toArray.toList ++ cs ++ List.drop (0 + cs.length) (bcells z).toArray.toList).toArray = (bcells R.secs[k]).toArray := by
        rw [HCS.out]
        simp [bcells_length, H64.out, hZL.out]
      rw [er] at hg2
      have hne := HC.out.lt
      have HN : Hid (IsRef w2 w.heap.size cd cl cc ⟨half R.secs (k + 1), -1, false, 0⟩) := Lib.hid (by
        have := HC.out.setRow k hkc g (by exact C1.out) R.secs[k] H64.out hT2 hg2
        dsimp only at this
        rwa [half_set _ _ hkR] at this)
      have HB2 : Hid (Below w.heap.size w w2) := Lib.hid (HB.out.trans (hT2.below HB.out.size (fun x hx e => by
        obtain ⟨gs, g1, g2, g3, g4⟩ := HC.out.row
        have hkg : k < gs.length := by rw [g1]; exact hkc
        have : wr.cell? ⟨cl, k, none⟩ = some (sl64 gs[k]) := cells_of_owns g2 k _ (by rw [List.getElem?_map, List.getElem?_eq_getElem hkg]; rfl)
        have h2 := this.symm.trans C1.out
        unfold sl64 at h2
        have h3 : gs[k] = g := by simpa using h2
        have := (g3 k hkg hkc).2
        omega)))
      clear er hg2 ht2 hT2 hgd hgd' hat hatd hfit f0 c0 c1 f1 hne
      go_wp2
      go_roundw
      case rel => exact ⟨k + 1, by omega, by go_num, HB2, HN⟩
      case measure => simp [intOf]; omega
    · have hke : k = M := by omega
      subst hke
      go_wp2
      go_ret
      have hc := HC.out
      rw [HM.out, half_all] at hc
      exact ⟨cd, cl, cc, rfl, HB.out, hc⟩

end Go.Proofs.YtppmpgkkegldnaaDoor
