/- Layer 20: StoresNone; conditions: those typed. -/
import Derived.Test.YtggjhbpggddjmaaGreatGStTw
namespace Go.Proofs.YtggjhbpggddjmaaGreat
open Go.RowKit
set_option linter.unusedVariables false
set_option linter.unusedSimpArgs false

theorem none_one (who : Int) (sq : Nat) (st : Bool) (ra : Option Addr) (rn rc p : Nat) (la : Option Addr) (ln lc : Nat) : True := trivial
set_option maxRecDepth 100000 in
set_option maxHeartbeats 16000000 in
theorem none_any (who : Int) (sq : Nat) (st : Bool) (ra : Option Addr) (rn rc p : Nat) (la : Option Addr) (ln lc : Nat) (w : World) :
    Calls Tryz.prog 7 #[.agg #[.int .i64 who, .int .u32 sq, .bool st, .slice ra rn rc, .int .u8 p, .slice la ln lc]] w fun e w' => e = .returned (.bool true) ∧ Below w.heap.size w w' := by
  obtain ⟨hb0, m0, m1, m2, m3⟩ := alloc4_facts w (.cells #[.int .i64 who, .int .u32 sq, .bool st, .slice ra rn rc, .int .u8 p, .slice la ln lc] 73 (0, 0)) (.cells #[.int .u32 sq, .bool st, .slice ra rn rc] 41 (0, 0)) (.cells #[.slice none 0 0, .slice none 0 0, .slice none 0 0, .slice none 0 0, .int .u64 0, .pointer none] 77 (0, 0)) (.cells #[.pointer none, .pointer (some ⟨w.heap.size + 1 + 1, 0, none⟩)] 30 (0, 0))
  have hv := heap_new w (.cells #[.int .i64 who, .int .u32 sq, .bool st, .slice ra rn rc, .int .u8 p, .slice la ln lc] 73 (0, 0))
  have f0 : (w.alloc (.cells #[.int .i64 who, .int .u32 sq, .bool st, .slice ra rn rc, .int .u8 p, .slice la ln lc] 73)).cell? ⟨w.heap.size, 0, none⟩ = some (.int .i64 who) := by rw [cell_of_block hv]; rfl
  have hrg : (w.alloc (.cells #[.int .i64 who, .int .u32 sq, .bool st, .slice ra rn rc, .int .u8 p, .slice la ln lc] 73)).rangeAt w.heap.size 1 [.int .u32 sq, .bool st, .slice ra rn rc] := by
    intro j x hx
    rw [cell_of_block hv]
    match j, hx with
    | 0, hx => exact hx
    | 1, hx => exact hx
    | 2, hx => exact hx
    | j + 3, hx => simp at hx
  have hv1 : ((w.alloc (.cells #[.int .i64 who, .int .u32 sq, .bool st, .slice ra rn rc, .int .u8 p, .slice la ln lc] 73)).alloc (.cells #[.int .u32 sq, .bool st, .slice ra rn rc] 41)).heap[w.heap.size]? = some (.cells #[.int .i64 who, .int .u32 sq, .bool st, .slice ra rn rc, .int .u8 p, .slice la ln lc] 73 (0, 0)) := below_heap ((Below.refl _ _).alloc (Nat.le_refl _) _) hv (lt_of_heap hv)
  have f4 : ((w.alloc (.cells #[.int .i64 who, .int .u32 sq, .bool st, .slice ra rn rc, .int .u8 p, .slice la ln lc] 73)).alloc (.cells #[.int .u32 sq, .bool st, .slice ra rn rc] 41)).cell? ⟨w.heap.size, 4, none⟩ = some (.int .u8 p) := by rw [cell_of_block hv1]; rfl
  have f5 : ((w.alloc (.cells #[.int .i64 who, .int .u32 sq, .bool st, .slice ra rn rc, .int .u8 p, .slice la ln lc] 73)).alloc (.cells #[.int .u32 sq, .bool st, .slice ra rn rc] 41)).cell? ⟨w.heap.size, 5, none⟩ = some (.slice la ln lc) := by rw [cell_of_block hv1]; rfl
  have HB0 := Lib.hid hb0
  have HM1 := Lib.hid m1
  have HM2 := Lib.hid m2
  have HM3 := Lib.hid m3
  have HRG := Lib.hid hrg
  clear hb0 m0 m1 m2 m3 hv hv1 hrg
  go_enter Tryz.func7, Tryz.ntmps7
  go_wp2_with (first
    | (refine wpList_load_mid rfl 41 (.tmp 19) rfl w.heap.size 1 rfl [.int .u32 sq, .bool st, .slice ra rn rc] _ HRG.out Tryz.underlying41 rfl info_rec ?_)
    | fail)
  generalize ((((w.alloc (.cells #[.int .i64 who, .int .u32 sq, .bool st, .slice ra rn rc, .int .u8 p, .slice la ln lc] 73)).alloc (.cells #[.int .u32 sq, .bool st, .slice ra rn rc] 41)).alloc (.cells #[.slice none 0 0, .slice none 0 0, .slice none 0 0, .slice none 0 0, .int .u64 0, .pointer none] 77)).alloc (.cells #[.pointer none, .pointer (some ⟨w.heap.size + 1 + 1, 0, none⟩)] 30)) = w4 at HB0 HM1 HM2 HM3 ⊢
  clear f0 f4 f5 HRG
  obtain ⟨N, hN⟩ : ∃ N, N = 2 := ⟨_, rfl⟩
  have HN := Lib.hid hN
  clear hN
  go_loopw [8] (fun i wr => ∃ j : Nat, j ≤ 2 ∧ i = .int .i64 j ∧ Below w4.heap.size w4 wr) (fun i _ => N - (intOf i).toNat)
  case atStart => exact ⟨0, by decide, rfl, Below.refl _ _⟩
  case round =>
    obtain ⟨j, hj, rfl, hbw⟩ := hrel
    by_cases hlt : j < 2
    · obtain ⟨v, hv, hnot⟩ : ∃ v, w4.cell? ⟨w.heap.size + 1 + 1 + 1, j, none⟩ = some v ∧ NotSt w4 v := by
        rw [cell_of_block HM3.out]
        have hz : w4.cell? ⟨w.heap.size + 1 + 1, 5, none⟩ = some (.pointer none) := by rw [cell_of_block HM2.out]; rfl
        match j, hlt with
        | 0, _ => exact ⟨_, rfl, .inl rfl⟩
        | 1, _ => exact ⟨_, rfl, .inr ⟨_, rfl, hz⟩⟩
      have HV := Lib.hid hv
      have HNS := Lib.hid (fun W (hb : Below w4.heap.size w4 W) => hnot.below hb)
      have HBW := Lib.hid hbw
      have c0 : wr.cell? ⟨w.heap.size + 1 + 1 + 1, j, none⟩ = some v := cell_later hbw hv
      clear hv hnot hbw
      go_wp2_with fail
      refine (config_not v wr (HNS.out wr HBW.out)).mono ?_; rintro e w5 ⟨rfl, hb5⟩
      have HB5 := Lib.hid ((HBW.out.trans (hb5.mono HBW.out.size)).alloc (HBW.out.trans (hb5.mono HBW.out.size)).size (.cells #[.slice none 0 0, .slice none 0 0, .slice none 0 0, .slice none 0 0, .int .u64 0] 27 (0, 0)))
      have c1 : (w5.alloc (.cells #[.slice none 0 0, .slice none 0 0, .slice none 0 0, .slice none 0 0, .int .u64 0] 27)).cell? ⟨w.heap.size + 1 + 1 + 1, j, none⟩ = some v := cell_later HB5.out HV.out
      clear hb5 c0 HBW
      go_wp2_with fail
      generalize w5.alloc (.cells #[.slice none 0 0, .slice none 0 0, .slice none 0 0, .slice none 0 0, .int .u64 0] 27) = w6 at HB5 c1 ⊢
      refine (record_not v (.int .i64 who) w6 (HNS.out w6 HB5.out)).mono ?_; rintro e w7 ⟨rfl, hb7⟩
      have HB7 := Lib.hid ((HB5.out.trans (hb7.mono HB5.out.size)).alloc (HB5.out.trans (hb7.mono HB5.out.size)).size (.cells #[.int .u32 0, .bool false, .slice none 0 0] 41 (0, 0)))
      have c2 : (w7.alloc (.cells #[.int .u32 0, .bool false, .slice none 0 0] 41)).cell? ⟨w.heap.size + 1 + 1 + 1, j, none⟩ = some v := cell_later HB7.out HV.out
      clear hb7 c1 HB5
      go_wp2_with fail
      generalize w7.alloc (.cells #[.int .u32 0, .bool false, .slice none 0 0] 41) = w8 at HB7 c2 ⊢
      refine (order_not v w8 (HNS.out w8 HB7.out)).mono ?_; rintro e w9 ⟨rfl, rfl⟩
      go_wp2_with fail
      refine (market_not v w8 (HNS.out w8 HB7.out)).mono ?_; rintro e wA ⟨rfl, hbA⟩
      have HBA := Lib.hid ((HB7.out.trans (hbA.mono HB7.out.size)).alloc (HB7.out.trans (hbA.mono HB7.out.size)).size (.cells #[.slice none 0 0, .slice none 0 0, .slice none 0 0] 66 (0, 0)))
      have c3 : (wA.alloc (.cells #[.slice none 0 0, .slice none 0 0, .slice none 0 0] 66)).cell? ⟨w.heap.size + 1 + 1 + 1, j, none⟩ = some v := cell_later HBA.out HV.out
      clear hbA c2 HB7
      go_wp2_with fail
      generalize wA.alloc (.cells #[.slice none 0 0, .slice none 0 0, .slice none 0 0] 66) = wB at HBA c3 ⊢
      have hvr := below_heap HBA.out HM1.out (lt_of_heap HM1.out)
      have r0 : wB.cell? ⟨w.heap.size + 1, 0, none⟩ = some (.int .u32 sq) := by rw [cell_of_block hvr]; rfl
      have r1 : wB.cell? ⟨w.heap.size + 1, 1, none⟩ = some (.bool st) := by rw [cell_of_block hvr]; rfl
      have r2 : wB.cell? ⟨w.heap.size + 1, 2, none⟩ = some (.slice ra rn rc) := by rw [cell_of_block hvr]; rfl
      have kd0 := (Below.refl wB.heap.size wB).drew
      have HKD := Lib.hid (HBA.out.trans (kd0.mono HBA.out.size))
      clear hvr
      go_region_held3 (fun w' => w'.cell? ⟨w.heap.size + 1 + 1 + 1, j, none⟩ = some v ∧ w'.cell? ⟨w.heap.size + 1, 0, none⟩ = some (.int .u32 sq) ∧ w'.cell? ⟨w.heap.size + 1, 1, none⟩ = some (.bool st) ∧ w'.cell? ⟨w.heap.size + 1, 2, none⟩ = some (.slice ra rn rc)) (first
          | with_reducible exact ⟨cell_later hBC c3, cell_later hBC r0, cell_later hBC r1, cell_later hBC r2⟩
          | with_reducible exact ⟨cell_later kd0 c3, cell_later kd0 r0, cell_later kd0 r1, cell_later kd0 r2⟩) (first
        | (go_at_call 12; ((with_reducible refine (phase_not v wB.drew (HNS.out _ HKD.out)).mono ?_); rintro e wX ⟨rfl, rfl⟩))
        | (go_at_call 13; ((with_reducible refine (set_not v (.int .i64 who) sq st ra rn rc wB.drew (HNS.out _ HKD.out)).mono ?_); rintro e wC ⟨rfl, hbC⟩; have hBC : Below wB.heap.size wB wC := kd0.trans (hbC.mono kd0.size); have hnC := HNS.out wC (HBA.out.trans (hBC.mono HBA.out.size))))
        | (go_at_call 11; ((with_reducible refine (turn_not v _ _ wC hnC).mono ?_); rintro e wX ⟨rfl, rfl⟩))
        | fail)
      all_goals
        have HBC := Lib.hid (HBA.out.trans (hBC.mono HBA.out.size))
        clear hBC hbC hnC c3 r0 r1 r2 kd0
        go_wp2_with fail
        go_roundw
        case rel => exact ⟨j + 1, by omega, by go_num, HBC.out⟩
        case measure => have := HN.out; simp [intOf]; omega
    · have hj2 : j = 2 := by omega
      subst hj2
      have HBW := Lib.hid (HB0.out.trans (hbw.mono HB0.out.size))
      clear hbw
      go_wp2_with fail
      refine (lives_any wr).mono ?_; rintro e w2 ⟨rfl, hb2⟩
      have HB2 := Lib.hid (HBW.out.trans (hb2.mono HBW.out.size))
      clear hb2
      go_wp2_with fail
      go_ret
      exact ⟨rfl, HB2.out⟩

end Go.Proofs.YtggjhbpggddjmaaGreat
