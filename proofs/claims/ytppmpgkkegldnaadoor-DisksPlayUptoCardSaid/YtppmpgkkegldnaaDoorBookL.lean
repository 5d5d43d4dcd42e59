/- A book looks at its lists of bytes; conditions: those typed. -/
import Derived.Test.YtppmpgkkegldnaaDoorBookG
namespace Go.Proofs.YtppmpgkkegldnaaDoor
open Go.RowKit
set_option linter.unusedVariables false
set_option linter.unusedSimpArgs false
set_option maxRecDepth 100000

theorem isByte_self (m : Nat) (w : World) (hm : m < 4611686018427387904) : Calls Tryd.prog 66 #[.int .u8 (mk m).toNat, .int .i64 m] w fun e w' => e = .returned (.bool true) ∧ w' = w :=
  (isByte_any (mk m) m w hm).mono fun e w' h => ⟨by rw [h.1]; simp, h.2.symm⟩

set_option maxHeartbeats 4000000 in
theorem lookByte_any (w : World) (B bk N : Nat) (bs : Value) (H : List Hl) (h : Bk w B bk N bs H) (hf : ∀ i (hi : i < H.length), HFill w H[i].l (mk H[i].m)) (hg : ∀ i (hi : i < H.length), HFill w H[i].g (mk H[i].m) ∧ H[i].g.n = H[i].l.n + 40) (hsm : ∀ i (hi : i < H.length), H[i].l.n ≤ 100000000) :
    Calls Tryd.prog 48 #[.pointer (some ⟨bk, 0, none⟩)] w fun e w' => e = .returned (.bool true) ∧ Below w.heap.size w w' := by
  have hfew := h.few
  obtain ⟨bo, bc, rfl⟩ := owns_shape h.row
  have HH := Lib.hid h
  have HF := Lib.hid hf
  have HG := Lib.hid hg
  have HSM := Lib.hid hsm
  clear h hf hg hsm
  go_enter Tryd.func48, Tryd.ntmps48
  go_wp2
  obtain ⟨M, hM⟩ : ∃ M, M = H.length := ⟨_, rfl⟩
  have HM := Lib.hid hM
  rw [← hM] at hfew
  clear hM
  go_loopw [3] (fun i wr => ∃ j : Nat, j ≤ M ∧ i = .int .i64 j ∧ Hid (Below w.heap.size w wr)) (fun i _ => M - (intOf i).toNat)
  case atStart => exact ⟨0, Nat.zero_le _, rfl, Lib.hid (Below.refl _ _)⟩
  case round =>
    obtain ⟨j, hj, rfl, HB⟩ := hrel
    have HKR : Hid (Bk wr B bk N (.slice bo H.length bc) H) := Lib.hid (HH.out.below HB.out)
    have f1 : wr.cell? ⟨bk, 1, none⟩ = some (.slice bo M bc) := book_cell1 (by rw [HM.out]; exact HKR.out.book)
    by_cases hlt : j < M
    · have hjH : j < H.length := by have := HM.out; omega
      obtain ⟨gr, c, cur, hbs, hnc, hcm, hgr, hra⟩ := HKR.out.row_at (by omega)
      rw [← HM.out] at hnc
      obtain ⟨rfl, rfl⟩ : bo = some ⟨gr, 0, none⟩ ∧ bc = c := by simpa using hbs
      obtain ⟨xa, xn, xc, ya, yn, yc, m, E⟩ : ∃ xa xn xc ya yn yc m, Hid (xa = H[j].l.a ∧ xn = H[j].l.n ∧ xc = H[j].l.c ∧ ya = H[j].g.a ∧ yn = H[j].g.n ∧ yc = H[j].g.c ∧ m = H[j].m) := ⟨_, _, _, _, _, _, _, Lib.hid ⟨rfl, rfl, rfl, rfl, rfl, rfl, rfl⟩⟩
      have RA : Hid (wr.rangeAt gr (j * 3) [.slice xa xn xc, .slice ya yn yc, .int .i64 m]) := Lib.hid (by obtain ⟨e1, e2, e3, e4, e5, e6, e7⟩ := E.out; rw [e1, e2, e3, e4, e5, e6, e7]; exact hra j hjH)
      have hm62 : m < 4611686018427387904 := by rw [E.out.2.2.2.2.2.2]; exact HKR.out.num j hjH
      have hxs : xn ≤ 100000000 := by rw [E.out.2.1]; exact HSM.out j hjH
      have hyx : yn = xn + 40 := by rw [E.out.2.1, E.out.2.2.2.2.1]; exact (HG.out j hjH).2
      have HL : Hid (∀ k, k < xn → ∃ g, xa = some ⟨g, 0, none⟩ ∧ w.cell? ⟨g, k, none⟩ = some (.int .u8 (mk m).toNat)) := Lib.hid (by
        obtain ⟨e1, e2, _, _, _, _, e7⟩ := E.out
        rw [e1, e2, e7]; exact HF.out j hjH)
      have HY : Hid (∀ k, k < yn → ∃ g, ya = some ⟨g, 0, none⟩ ∧ w.cell? ⟨g, k, none⟩ = some (.int .u8 (mk m).toNat)) := Lib.hid (by
        obtain ⟨_, _, _, e4, e5, _, e7⟩ := E.out
        rw [e4, e5, e7]; exact (HG.out j hjH).1)
      clear hbs hra hnc
      subst hyx
      go_wp2_with (first
        | (refine wpList_load_mid rfl 68 (.tmp 20) rfl gr (j * 3) rfl [.slice xa xn xc, .slice ya (xn + 40) yc, .int .i64 m] _ RA.out Tryd.underlying68 rfl infoHl3 ?_)
        | fail)
      have hv := heap_new wr (.cells #[.slice xa xn xc, .slice ya (xn + 40) yc, .int .i64 m] 68 (0, 0))
      have hbv : Below wr.heap.size wr (wr.alloc (.cells #[.slice xa xn xc, .slice ya (xn + 40) yc, .int .i64 m] 68)) := (Below.refl _ _).alloc (Nat.le_refl _) _
      have HB1 : Hid (Below w.heap.size w (wr.alloc (.cells #[.slice xa xn xc, .slice ya (xn + 40) yc, .int .i64 m] 68))) := Lib.hid (HB.out.trans (hbv.mono HB.out.size))
      have HV1 := Lib.hid hv
      obtain ⟨hv0, hhv⟩ : ∃ hv0, hv0 = wr.heap.size := ⟨_, rfl⟩
      rw [← hhv] at HV1 ⊢
      generalize wr.alloc (.cells #[.slice xa xn xc, .slice ya (xn + 40) yc, .int .i64 m] 68) = w1 at HB1 HV1 ⊢
      clear hv hbv HB HKR f1 hhv hgr RA
      obtain ⟨P, hP⟩ : ∃ P, P = xn + 40 := ⟨_, rfl⟩
      have HP := Lib.hid hP
      clear hP
      go_loopw [5] (fun i2 wk => ∃ k q : Nat, k ≤ xn + 40 ∧ i2 = .int .i64 k ∧ wk = w1.drewN q) (fun i2 _ => P - (intOf i2).toNat)
      case atStart => exact ⟨0, 0, Nat.zero_le _, rfl, rfl⟩
      case round =>
        obtain ⟨k, q, hk, rfl, hwr⟩ := hrel
        have HW := Lib.hid hwr
        have HBR : Hid (Below w.heap.size w wr) := Lib.hid (by rw [hwr]; exact below_drewN HB1.out _)
        have v0 : wr.cell? ⟨hv0, 0, none⟩ = some (.slice xa xn xc) := by rw [hwr, World.cell?_drewN, cell_of_block HV1.out]; rfl
        have v1 : wr.cell? ⟨hv0, 1, none⟩ = some (.slice ya ((xn + 40 : Nat)) yc) := by rw [hwr, World.cell?_drewN, cell_of_block HV1.out]; rfl
        have v2 : wr.cell? ⟨hv0, 2, none⟩ = some (.int .i64 m) := by rw [hwr, World.cell?_drewN, cell_of_block HV1.out]; rfl
        by_cases hkl : k < xn + 40
        · obtain ⟨gy, rfl, hcy⟩ := HY.out k hkl
          have c1 : wr.cell? ⟨gy, k, none⟩ = some (.int .u8 (mk m).toNat) := cell_later HBR.out hcy
          by_cases hkx : k < xn
          · obtain ⟨gx, rfl, hcx⟩ := HL.out k hkx
            have c0 : wr.cell? ⟨gx, k, none⟩ = some (.int .u8 (mk m).toNat) := cell_later HBR.out hcx
            clear hcx hcy hwr
            go_wp2_with fail
            go_quiet ((go_at_call 66; exact Calls.quiet_of_same (isByte_self m _ hm62)))
            go_wp2_with fail
            go_roundw
            case rel => exact ⟨k + 1, q + nq, by omega, by go_num, by rw [HW.out]; simp⟩
            case measure => have := HP.out; simp [intOf]; omega
          · clear hcy hwr
            go_wp2_with fail
            go_quiet ((go_at_call 66; exact Calls.quiet_of_same (isByte_self m _ hm62)))
            go_wp2_with fail
            go_roundw
            case rel => exact ⟨k + 1, q + nq, by omega, by go_num, by rw [HW.out]; simp⟩
            case measure => have := HP.out; simp [intOf]; omega
        · have hke : k = xn + 40 := by omega
          subst hke
          clear hwr
          go_wp2
          go_roundw
          case rel => exact ⟨j + 1, by omega, by go_num, HBR⟩
          case measure => have := HM.out; simp [intOf]; omega
    · have hje : j = M := by omega
      subst hje
      go_wp2
      go_ret
      exact ⟨rfl, HB.out⟩

end Go.Proofs.YtppmpgkkegldnaaDoor
