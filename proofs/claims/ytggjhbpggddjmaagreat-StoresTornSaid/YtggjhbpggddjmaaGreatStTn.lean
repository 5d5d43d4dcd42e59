/- Layer 20: StoresTorn; conditions: those typed. -/
import Derived.Test.YtggjhbpggddjmaaGreatStKept
namespace Go.Proofs.YtggjhbpggddjmaaGreat
open Go.RowKit
set_option linter.unusedVariables false
set_option linter.unusedSimpArgs false

theorem infoRec3 : (Tryz.prog.info? 41).map (fun i => (i.zero, i.size, i.bytes)) = some (some (.agg #[.int .u32 0, .bool false, .slice none 0 0]), 3, 32) := by kernel_rfl
theorem rowRec : RowTy Tryz.prog 54 41 3 32 (.agg #[.int .u32 0, .bool false, .slice none 0 0]) := ⟨Tryz.underlying54, infoRec3, rfl, by decide⟩
theorem three_at (w : World) (x y z : Value) (e : TypeId) : At (w.alloc (.cells #[x, y, z] e)) (some ⟨w.heap.size, 0, none⟩) [x, y, z] := At.of_cells fun j hj => by
  rw [cell_of_block (heap_new w _)]
  match j, hj with
  | 0, _ => rfl
  | 1, _ => rfl
  | 2, _ => rfl
/-- The records that were told, in memory. -/
def OldV (B : Nat) (W : World) (it : Nat) (D : Dsk) (k : Nat) (xs : List Value) : Prop :=
  xs.length = k * 3 ∧ ∀ i, i < k → ∃ a, xs[i * 3]? = some (.int .u32 ((rcD it D i).1.seq : Int)) ∧ xs[i * 3 + 1]? = some (.bool (rcD it D i).1.stands) ∧ xs[i * 3 + 2]? = some (.slice a (rcD it D i).1.bid.length (rcD it D i).1.bid.length) ∧ NwI B W a (rcD it D i).1.bid
theorem OldV.touch {B : Nat} {S : Nat → Prop} {W W' : World} {it : Nat} {D : Dsk} {k : Nat} {xs : List Value} (h : OldV B W it D k xs) (ht : Touch S W W') (hs : ∀ j, B ≤ j → (∃ cur, W.heap[j]? = some (.cells cur 3 (0, 0))) → ¬ S j) : OldV B W' it D k xs := by
  refine ⟨h.1, fun i hi => ?_⟩
  obtain ⟨a, h1, h2, h3, c, h4⟩ := h.2 i hi
  exact ⟨a, h1, h2, h3, c, owns_touch h4 ht (fun j hj => hs j (owns_base h4 j hj) (owns_block h4 hj))⟩
theorem OldV.below {B : Nat} {W W' : World} {it : Nat} {D : Dsk} {k : Nat} {xs : List Value} (h : OldV B W it D k xs) (hb : Below W.heap.size W W') : OldV B W' it D k xs := h.touch (Touch.of_below (S := fun _ => False) hb) (fun _ _ _ => id)
theorem OldV.snoc {B : Nat} {W : World} {it : Nat} {D : Dsk} {k : Nat} {xs : List Value} (h : OldV B W it D k xs) {a : Option Addr} {sq : Nat} {st : Bool} {l : List Int} {ok : Bool} (hr : rcD it D k = (⟨sq, st, l⟩, ok)) (hn : NwI B W a l) : OldV B W it D (k + 1) (xs ++ [.int .u32 (sq : Int), .bool st, .slice a l.length l.length]) := by
  refine ⟨by rw [List.length_append, h.1]; simp; omega, fun i hi => ?_⟩
  by_cases hik : i < k
  · obtain ⟨a', h1, h2, h3, h4⟩ := h.2 i hik
    have hl := h.1
    refine ⟨a', ?_, ?_, ?_, h4⟩
    · rw [List.getElem?_append_left (by omega)]; exact h1
    · rw [List.getElem?_append_left (by omega)]; exact h2
    · rw [List.getElem?_append_left (by omega)]; exact h3
  · have hie : i = k := by omega
    subst hie
    have hl := h.1
    rw [hr]
    refine ⟨a, ?_, ?_, ?_, hn⟩
    · rw [List.getElem?_append_right (by omega), hl, Nat.sub_self]; rfl
    · rw [List.getElem?_append_right (by omega), hl, Nat.add_sub_cancel_left]; rfl
    · rw [List.getElem?_append_right (by omega), hl, Nat.add_sub_cancel_left]; rfl
theorem owns_cells3 {w : World} {B e g n c : Nat} {xs : List Value} (h : w.ownsRow B e 3 (.slice (some ⟨g, 0, none⟩) n c) n xs) (i : Nat) (v : Value) (hv : xs[i]? = some v) : w.cell? ⟨g, i, none⟩ = some v := by
  rcases h.2 with ⟨h0, _⟩ | ⟨g', cap, cur, h0, _, hg, _, _, hcs, ht⟩
  · cases h0
  · cases h0
    rw [cell_of_block hg]
    rw [← ht] at hv
    obtain ⟨hi, _⟩ := List.getElem?_eq_some_iff.1 hv
    have hi2 : i < n * 3 := by rw [List.length_take] at hi; omega
    rw [List.getElem?_take_of_lt hi2] at hv
    simpa using hv

/-- The store that was opened, and what was told before. -/
structure TnS (w0 wz : World) (c : StC) (O : Obj) (it : Nat) (Dk : Dsk) (b' : Option Addr) (c' : Nat) (xs : List Value) (bs2 cd cl : Nat) (y2 : StA) (D2 : Dsk) (W : World) : Prop where
  st2 : IsStore W bs2 cd cl y2 c D2
  row : W.ownsRow wz.heap.size 41 3 (.slice b' c.s.length c') c.s.length xs
  old : OldV wz.heap.size W it Dk c.s.length xs
  cfg : W.heap[w0.heap.size]? = some O
  bel : Below w0.heap.size w0 W
theorem TnS.below {w0 wz W W' : World} {c : StC} {O : Obj} {it : Nat} {Dk : Dsk} {b' : Option Addr} {c' : Nat} {xs : List Value} {bs2 cd cl : Nat} {y2 : StA} {D2 : Dsk} (h : TnS w0 wz c O it Dk b' c' xs bs2 cd cl y2 D2 W) (hb : Below W.heap.size W W') : TnS w0 wz c O it Dk b' c' xs bs2 cd cl y2 D2 W' :=
  ⟨h.st2.below hb, owns_below h.row hb, h.old.below hb, below_heap hb h.cfg (lt_of_heap h.cfg), h.bel.trans (hb.mono h.bel.size)⟩

set_option maxRecDepth 100000 in
set_option maxHeartbeats 64000000 in
theorem torn_any (x : StA) (c : StC) (la : Option Addr) (ln lc : Nat) (L : List AcV) (m : AcV) (fq : Nat) (w : World) (hc : IsCf w (fun k => k < w.heap.size) x c) (hL : IsRows AcV.cells 10 w la ln lc L) (hR : ∀ x ∈ L, AcOk w x) (hm41 : L.length ≤ 2199023255552) (hmo : AcOk w m) (hfq : fq < 256) :
    Calls Tryz.prog 5 #[.agg (x.cells c.t ++ ([Value.slice la ln lc] ++ (m.cells ++ [Value.int .u8 fq]))).toArray] w fun e w' => e = .returned (.bool true) ∧ Below w.heap.size w w' := by
  obtain ⟨ra, rn, rc, sa, sn, sc, sv, aa, an, ac, ua, un, uc⟩ := x
  obtain ⟨kd, who, ⟨sq, st, ba, bn, bc, bl0⟩, p, oa, on, oc, ol, nn, at1, b1, b2, b3, b4⟩ := m
  obtain rfl : sn = c.s.length := hc.s.1
  obtain rfl := hL.1
  have hNO := fun w hc hm => made_no (fun k => k < w.heap.size) ⟨ra, rn, rc, sa, c.s.length, sc, sv, aa, an, ac, ua, un, uc⟩ c w hc hm
  have hYES := fun w P hc hP hm => made_yes P ⟨ra, rn, rc, sa, c.s.length, sc, sv, aa, an, ac, ua, un, uc⟩ c w hc hP hm
  have hGR := fun w P hc hL hcm => great_any P ⟨ra, rn, rc, sa, c.s.length, sc, sv, aa, an, ac, ua, un, uc⟩ c la L.length lc L w hc hL hm41 hcm
  unfold StA.cells at hNO hYES hGR ⊢
  unfold AcV.cells
  dsimp only [List.cons_append, List.nil_append] at hNO hYES hGR ⊢
  have HNO := Lib.hid hNO
  have HYES := Lib.hid hYES
  have HGR := Lib.hid hGR
  have hb0 : Below w.heap.size w (w.alloc (.cells #[.slice ra rn rc, .slice sa c.s.length sc, .slice aa an ac, .slice ua un uc, .int .u64 (c.t : Int), .slice la L.length lc, .int .u8 kd, .int .i64 who, .int .u32 sq, .bool st, .slice ba bn bc, .int .u8 p, .slice oa on oc, .int .i64 nn, .int .i64 at1, .slice b1 b2 b3, .int .u8 fq] 52 (0, 0))) := (Below.refl _ _).alloc (Nat.le_refl _) _
  have hv := heap_new w (.cells #[.slice ra rn rc, .slice sa c.s.length sc, .slice aa an ac, .slice ua un uc, .int .u64 (c.t : Int), .slice la L.length lc, .int .u8 kd, .int .i64 who, .int .u32 sq, .bool st, .slice ba bn bc, .int .u8 p, .slice oa on oc, .int .i64 nn, .int .i64 at1, .slice b1 b2 b3, .int .u8 fq] 52 (0, 0))
  have HC := Lib.hid (hc.below hb0)
  have HCW := Lib.hid hc
  have HL := Lib.hid hL
  have HRO := Lib.hid hR
  have HMO := Lib.hid hmo
  have hwl : -9223372036854775808 ≤ who ∧ who ≤ 9223372036854775807 := hmo.who
  have hkd : kd < 256 := hmo.k
  have hblm : bn ≤ 140737488351232 := by have h1 := hmo.r.i.1; have h2 := hmo.r.len; dsimp only at h1 h2; omega
  have holm : on ≤ 17592186044416 := by have h1 := hmo.o.1.1; have h2 := hmo.o.2; dsimp only at h1 h2; omega
  clear hNO hYES hGR hc hL hR hmo
  go_enter Tryz.func5, Tryz.ntmps5
  go_wp2_with (first
    | (refine wpList_load_mid rfl 27 (.tmp 23) rfl w.heap.size 0 rfl [.slice ra rn rc, .slice sa c.s.length sc, .slice aa an ac, .slice ua un uc, .int .u64 (c.t : Int)] _ (rangeAt_in (A := []) (B := [.slice la L.length lc, .int .u8 kd, .int .i64 who, .int .u32 sq, .bool st, .slice ba bn bc, .int .u8 p, .slice oa on oc, .int .i64 nn, .int .i64 at1, .slice b1 b2 b3, .int .u8 fq]) hv) Tryz.underlying27 rfl info_cfg ?_)
    | fail)
  generalize w.alloc (.cells #[.slice ra rn rc, .slice sa c.s.length sc, .slice aa an ac, .slice ua un uc, .int .u64 (c.t : Int), .slice la L.length lc, .int .u8 kd, .int .i64 who, .int .u32 sq, .bool st, .slice ba bn bc, .int .u8 p, .slice oa on oc, .int .i64 nn, .int .i64 at1, .slice b1 b2 b3, .int .u8 fq] 52 (0, 0)) = w0 at hb0 hv HC ⊢
  have HB0 := Lib.hid hb0
  have HV := Lib.hid hv
  have HZ : Hid (w.heap.size < w0.heap.size) := Lib.hid (lt_of_heap hv)
  clear hb0 hv
  cases hm : mayB c with
  | false =>
    refine (HNO.out w0 (HC.out.imp (fun k hk => by have := HZ.out; omega)) hm).mono ?_; rintro e w1 ⟨rfl, hb1⟩
    have HB1 := Lib.hid (HB0.out.trans (hb1.mono HB0.out.size))
    clear hb1 hm
    go_wp2_with fail
    refine (lives_any w1).mono ?_; rintro e w2 ⟨rfl, hb2⟩
    have HB2 := Lib.hid (HB1.out.trans (hb2.mono HB1.out.size))
    clear hb2
    go_wp2_with fail
    go_ret
    exact ⟨rfl, HB2.out⟩
  | true =>
    have HM := Lib.hid ((mayB_iff c).1 hm)
    refine (HYES.out w0 _ HC.out (fun k hk => by have := HZ.out; omega) hm).mono ?_; rintro e w1 ⟨bs, bd, bl, y, D, rfl, hb1, hs1, hg, hc1, r1, ⟨r2, -⟩, r3, r4⟩
    have HG : Hid (∀ k, k ≤ w.heap.size → ¬ (k = bd ∨ k = bl)) := Lib.hid (fun k hk => by have := HZ.out; omega)
    have hbe := HB0.out.trans (hb1.mono HB0.out.size)
    have HJ : Hid (OneS w c (.cells #[.slice ra rn rc, .slice sa c.s.length sc, .slice aa an ac, .slice ua un uc, .int .u64 (c.t : Int), .slice la L.length lc, .int .u8 kd, .int .i64 who, .int .u32 sq, .bool st, .slice ba bn bc, .int .u8 p, .slice oa on oc, .int .i64 nn, .int .i64 at1, .slice b1 b2 b3, .int .u8 fq] 52 (0, 0)) bs bd bl y D 1 w1) := Lib.hid ⟨hs1, r1, r2, below_heap hb1 HV.out (lt_of_heap HV.out), hbe⟩
    clear hb1 hs1 hg hc1 r1 r2 r3 r4 hm HNO HYES HC hbe
    have f0 : w1.cell? ⟨w.heap.size, 0, none⟩ = some (.slice ra rn rc) := by rw [cell_of_block HJ.out.cfg]; rfl
    have f1 : w1.cell? ⟨w.heap.size, 1, none⟩ = some (.slice sa c.s.length sc) := by rw [cell_of_block HJ.out.cfg]; rfl
    have f2 : w1.cell? ⟨w.heap.size, 2, none⟩ = some (.slice aa an ac) := by rw [cell_of_block HJ.out.cfg]; rfl
    have f3 : w1.cell? ⟨w.heap.size, 3, none⟩ = some (.slice ua un uc) := by rw [cell_of_block HJ.out.cfg]; rfl
    have f4 : w1.cell? ⟨w.heap.size, 4, none⟩ = some (.int .u64 (c.t : Int)) := by rw [cell_of_block HJ.out.cfg]; rfl
    have f5 : w1.cell? ⟨w.heap.size, 5, none⟩ = some (.slice la L.length lc) := by rw [cell_of_block HJ.out.cfg]; rfl
    go_wp2_with fail
    clear f0 f1 f2 f3 f4 f5
    refine (HGR.out w1 _ (HCW.out.below HJ.out.bel) (HL.out.below HJ.out.bel) (by have := HM.out.s; omega)).mono ?_; rintro e w2 ⟨⟨gb, rfl⟩, hb2⟩
    have HJ2 := Lib.hid (HJ.out.below hb2)
    clear hb2 HJ HGR
    have hlives : ∀ W, Below w.heap.size w W → Calls Tryz.prog 10 #[] W fun e w' => e = .returned (.bool true) ∧ Below w.heap.size w w' := fun W hW => (lives_any W).mono fun e w' ⟨h1, h2⟩ => ⟨h1, hW.trans (h2.mono hW.size)⟩
    have HLI := Lib.hid hlives
    clear hlives
    have g8 : w2.cell? ⟨w.heap.size, 10, none⟩ = some (.slice ba bn bc) := by rw [cell_of_block HJ2.out.cfg]; rfl
    have g9 : w2.cell? ⟨w.heap.size, 12, none⟩ = some (.slice oa on oc) := by rw [cell_of_block HJ2.out.cfg]; rfl
    cases gb with
    | true =>
      go_wp2_with fail
      refine (HLI.out w2 HJ2.out.bel).mono ?_; rintro e w3 ⟨rfl, hb3⟩
      go_wp2_with fail
      go_ret
      exact ⟨rfl, hb3⟩
    | false =>
    by_cases h100 : 100 < bn + on
    · have d1 : decide ((100 : Int) < (bn : Int) + (on : Int)) = true := decide_eq_true (by omega)
      have d2 : decide (100 < bn + on) = true := decide_eq_true h100
      clear h100
      go_wp2_with fail
      refine (HLI.out w2 HJ2.out.bel).mono ?_; rintro e w3 ⟨rfl, hb3⟩
      go_wp2_with fail
      go_ret
      exact ⟨rfl, hb3⟩
    have d1 : decide ((100 : Int) < (bn : Int) + (on : Int)) = false := decide_eq_false (by omega)
    have d2 : decide (100 < bn + on) = false := decide_eq_false h100
    clear h100
    go_wp2_with fail
    clear g8 g9 d1 d2
    obtain ⟨N, hN⟩ : ∃ N, N = L.length := ⟨_, rfl⟩
    have HN := Lib.hid hN
    have h8 : 1 ≤ c.s.length ∧ c.s.length ≤ 8 := HM.out.s
    have hr8 : c.r.length ≤ 1000000 := by have := HM.out.r.2.1; omega
    clear hN
    go_loopw [5] (fun i wr => ∃ k : Nat, ∃ D', k ≤ L.length ∧ i = .int .i64 k ∧ Hid (OneS w c (.cells #[.slice ra rn rc, .slice sa c.s.length sc, .slice aa an ac, .slice ua un uc, .int .u64 (c.t : Int), .slice la L.length lc, .int .u8 kd, .int .i64 who, .int .u32 sq, .bool st, .slice ba bn bc, .int .u8 p, .slice oa on oc, .int .i64 nn, .int .i64 at1, .slice b1 b2 b3, .int .u8 fq] 52 (0, 0)) bs bd bl y D' (k + 1) wr)) (fun i _ => N - (intOf i).toNat)
    case atStart => exact ⟨0, D, Nat.zero_le _, rfl, HJ2⟩
    case round =>
      clear HJ2
      obtain ⟨k, Dk, hk, rfl, HJ⟩ := hrel
      have s5 : wr.cell? ⟨w.heap.size, 5, none⟩ = some (.slice la L.length lc) := by rw [cell_of_block HJ.out.cfg]; rfl
      by_cases hlt : k < L.length
      · obtain ⟨lb, lo, rfl, hlb, hcells⟩ : ∃ lb lo, la = some ⟨lb, lo, none⟩ ∧ lb < w.heap.size ∧ ∀ i (hi : i < L.length) j v, (L[i].cells)[j]? = some v → w.cell? ⟨lb, lo + i * 10 + j, none⟩ = some v := by
          rcases HL.out.2.2.2 with h | h
          · rw [h] at hlt; exact absurd hlt (by simp)
          · exact h
        have hro := HRO.out L[k] (List.getElem_mem hlt)
        have hra : wr.rangeAt lb (lo + k * 10) L[k].cells := fun j v hj => (HJ.out.bel.cell (p := ⟨lb, lo + k * 10 + j, none⟩) hlb).trans (hcells k hlt j v hj)
        clear hcells
        generalize L[k] = xa at hro hra
        obtain ⟨kd', who', ⟨sq', st', ba', bn', bc', bl'⟩, p', oa', on', oc', ol', nn', at1', b1', b2', b3', b4'⟩ := xa
        have HRO1 := Lib.hid hro
        have hwl' : -9223372036854775808 ≤ who' ∧ who' ≤ 9223372036854775807 := hro.who
        unfold AcV.cells at hra
        dsimp only at hra
        have HRA := Lib.hid hra
        have hkd' : kd' < 256 := hro.k
        clear hra hro
        go_wp2_with (first
          | (refine wpList_load_mid rfl 50 (.tmp 61) rfl lb (lo + k * 10) rfl [.int .u8 kd', .int .i64 who', .int .u32 sq', .bool st', .slice ba' bn' bc', .int .u8 p', .slice oa' on' oc', .int .i64 nn', .int .i64 at1', .slice b1' b2' b3'] _ HRA.out Tryz.underlying50 rfl info_act ?_)
          | fail)
        all_goals
          have HJ1 := Lib.hid (HJ.out.below ((Below.refl _ wr).alloc (Nat.le_refl _) (.cells #[.int .u8 kd', .int .i64 who', .int .u32 sq', .bool st', .slice ba' bn' bc', .int .u8 p', .slice oa' on' oc', .int .i64 nn', .int .i64 at1', .slice b1' b2' b3'] 50 (0, 0))))
          clear HJ HRA s5
          generalize wr.alloc (.cells #[.int .u8 kd', .int .i64 who', .int .u32 sq', .bool st', .slice ba' bn' bc', .int .u8 p', .slice oa' on' oc', .int .i64 nn', .int .i64 at1', .slice b1' b2' b3'] 50 (0, 0)) = w1 at HJ1 ⊢
          have hkb : k + 1 ≤ 10000000000000 := by omega
          first
            | (refine (HJ1.out.set HG.out hkb who' ⟨sq', st', ba', bn', bc', bl'⟩ HRO1.out.r).mono ?_; rintro e w3 ⟨rfl, hj3⟩; generalize setD c.s.length c.r.length Dk who' (RcV.r ⟨sq', st', ba', bn', bc', bl'⟩) = DD at hj3 ⊢)
            | (refine (HJ1.out.turn HG.out hkb p' HRO1.out.p oa' on' oc' ol' HRO1.out.o.1 HRO1.out.o.2).mono ?_; rintro e w3 ⟨rfl, hj3⟩; generalize turnD c.s.length Dk p' ol' = DD at hj3 ⊢)
          obtain ⟨e1, D3⟩ := DD
          dsimp only at hj3 ⊢
          have HJ3 := Lib.hid hj3
          clear hj3 HJ1 HRO1 hkd'
          go_wp2_with fail
          go_roundw
          case rel => exact ⟨k + 1, D3, by omega, by go_num, HJ3⟩
          case measure => have := HN.out; simp [intOf]; omega
      · have hkk : k = L.length := by omega
        subst hkk
        go_wp2_with fail
        clear s5
        refine (phase_pub bs bd bl y c Dk wr HJ.out.st).mono ?_; rintro e w3 ⟨rfl, hb3⟩
        have HJ3 := Lib.hid (HJ.out.below hb3)
        clear hb3 HJ
        go_wp2_with fail
        obtain ⟨wz, hwz⟩ : ∃ wz, wz = w3 := ⟨_, rfl⟩
        have HJZ : Hid (OneS w c (.cells #[.slice ra rn rc, .slice sa c.s.length sc, .slice aa an ac, .slice ua un uc, .int .u64 (c.t : Int), .slice la L.length lc, .int .u8 kd, .int .i64 who, .int .u32 sq, .bool st, .slice ba bn bc, .int .u8 p, .slice oa on oc, .int .i64 nn, .int .i64 at1, .slice b1 b2 b3, .int .u8 fq] 52 (0, 0)) bs bd bl y Dk (L.length + 1) wz) := Lib.hid (by rw [hwz]; exact HJ3.out)
        have HZW : Hid (w.heap.size < wz.heap.size ∧ bd < wz.heap.size ∧ bl < wz.heap.size) := Lib.hid ⟨lt_of_heap HJZ.out.cfg, HJZ.out.st.lt.1, HJZ.out.st.lt.2⟩
        have hz0 : wz = w3 := hwz
        subst hz0
        clear hwz
        obtain ⟨M, hM⟩ : ∃ M, M = c.s.length := ⟨_, rfl⟩
        have HM' := Lib.hid hM
        clear hM
        go_loopw [9, 8] (fun i s wq => ∃ j : Nat, ∃ b' c' xs, j ≤ c.s.length ∧ i = .int .i64 j ∧ s = .slice b' j c' ∧ Hid (OneS w c (.cells #[.slice ra rn rc, .slice sa c.s.length sc, .slice aa an ac, .slice ua un uc, .int .u64 (c.t : Int), .slice la L.length lc, .int .u8 kd, .int .i64 who, .int .u32 sq, .bool st, .slice ba bn bc, .int .u8 p, .slice oa on oc, .int .i64 nn, .int .i64 at1, .slice b1 b2 b3, .int .u8 fq] 52 (0, 0)) bs bd bl y Dk (L.length + 1) wq ∧ wq.ownsRow wz.heap.size 41 3 (.slice b' j c') j xs ∧ OldV wz.heap.size wq c.r.length Dk j xs ∧ Below wz.heap.size wz wq)) (fun i _ _ => M - (intOf i).toNat)
        case atStart => exact ⟨0, none, 0, [], Nat.zero_le _, rfl, rfl, Lib.hid ⟨HJZ.out, World.ownsRow_nil _ _ _ _, ⟨rfl, fun i hi => absurd hi (Nat.not_lt_zero _)⟩, Below.refl _ _⟩⟩
        case round =>
          obtain ⟨j, b', c', xs, hj, rfl, rfl, HS⟩ := hrel
          have s1 : wr.cell? ⟨w.heap.size, 1, none⟩ = some (.slice sa c.s.length sc) := by rw [cell_of_block HS.out.1.cfg]; rfl
          by_cases hlt2 : j < c.s.length
          · go_wp2_with fail
            clear s1
            refine (record_ok bs bd bl y c Dk j wr HS.out.1.st hlt2 (by omega) hr8).mono ?_; rintro e w4 ⟨da, rfl, hb4, hn4⟩
            obtain ⟨⟨⟨sq1, st1, l1⟩, ok1⟩, hrr⟩ : ∃ r, rcD c.r.length Dk j = r := ⟨_, rfl⟩
            have HRR := Lib.hid hrr
            rw [hrr] at hn4 ⊢
            dsimp only at hn4 ⊢
            have hbA : Below wr.heap.size wr (w4.alloc (.cells #[.int .u32 (sq1 : Int), .bool st1, .slice da l1.length l1.length] 41 (0, 0))) := hb4.alloc hb4.size _
            have HJ4 := Lib.hid (HS.out.1.below hbA)
            have HOW4 := Lib.hid (owns_below HS.out.2.1 hbA)
            have HOV4 := Lib.hid (HS.out.2.2.1.below hbA)
            have HBZ4 := Lib.hid (HS.out.2.2.2.trans (hbA.mono HS.out.2.2.2.size))
            have HN4 := Lib.hid ((hn4.low HS.out.2.2.2.size).below ((Below.refl _ w4).alloc (Nat.le_refl _) (.cells #[.int .u32 (sq1 : Int), .bool st1, .slice da l1.length l1.length] 41 (0, 0))))
            clear hb4 hn4 hbA hrr HS
            have hm63 : j ≤ 8 := by omega
            generalize hw5 : w4.alloc (.cells #[.int .u32 (sq1 : Int), .bool st1, .slice da l1.length l1.length] 41 (0, 0)) = w5 at HJ4 HOW4 HOV4 HBZ4 HN4
            have HAT : Hid (At (w5.alloc (.cells #[.int .u32 (sq1 : Int), .bool st1, .slice da l1.length l1.length] 41 (0, 0))) (some ⟨w5.heap.size, 0, none⟩) [.int .u32 (sq1 : Int), .bool st1, .slice da l1.length l1.length]) := Lib.hid (three_at w5 _ _ _ _)
            have h31 : ∀ v ∈ [Value.int .u32 (sq1 : Int), .bool st1, .slice da l1.length l1.length], v.oneCell' = true := rec_one _ _ _ _ _
            have HSZ : Hid (wz.heap.size ≤ (w5.alloc (.cells #[.int .u32 (sq1 : Int), .bool st1, .slice da l1.length l1.length] 41 (0, 0))).heap.size) := Lib.hid (by have := HBZ4.out.size; simp; omega)
            have v5 : w5.heap[w4.heap.size]? = some (.cells #[.int .u32 (sq1 : Int), .bool st1, .slice da l1.length l1.length] 41 (0, 0)) := by rw [← hw5]; exact heap_new w4 _
            have k0 : w5.cell? ⟨w4.heap.size, 0, none⟩ = some (.int .u32 (sq1 : Int)) := by rw [cell_of_block v5]; rfl
            have k1 : w5.cell? ⟨w4.heap.size, 1, none⟩ = some (.bool st1) := by rw [cell_of_block v5]; rfl
            have k2 : w5.cell? ⟨w4.heap.size, 2, none⟩ = some (.slice da l1.length l1.length) := by rw [cell_of_block v5]; rfl
            have HOWA : Hid ((w5.alloc (.cells #[.int .u32 (sq1 : Int), .bool st1, .slice da l1.length l1.length] 41 (0, 0))).ownsRow wz.heap.size 41 3 (.slice b' j c') j xs) := Lib.hid (HOW4.out.alloc _)
            clear v5
            go_wp2_with (first
              | (at_builtin; refine wpList_append_any rowRec rfl (.tmp 95) (.tmp 97) rfl wz.heap.size (.slice b' j c') j xs rfl HOWA.out (some ⟨w5.heap.size, 0, none⟩) 1 1 [.int .u32 (sq1 : Int), .bool st1, .slice da l1.length l1.length] rfl rfl HAT.out h31 (by unfold maxLen; omega) (by omega) HSZ.out ?_; intro xb xc w6 hown6 hg6 hat6)
              | fail)
            have hb5 : Below w5.heap.size w5 (w5.alloc (.cells #[.int .u32 (sq1 : Int), .bool st1, .slice da l1.length l1.length] 41 (0, 0))) := (Below.refl _ _).alloc (Nat.le_refl _) _
            have ht6 : Touch (fun k => (Value.slice b' j c').ownBlock = some k) w5 w6 := ((Touch.refl (fun k => (Value.slice b' j c').ownBlock = some k) w5).alloc _).grown hg6 (fun k hk => .inl hk)
            have hob : ∀ k, (Value.slice b' j c').ownBlock = some k → wz.heap.size ≤ k := fun k hk => owns_base HOW4.out k hk
            have HS6 : Hid (OneS w c (.cells #[.slice ra rn rc, .slice sa c.s.length sc, .slice aa an ac, .slice ua un uc, .int .u64 (c.t : Int), .slice la L.length lc, .int .u8 kd, .int .i64 who, .int .u32 sq, .bool st, .slice ba bn bc, .int .u8 p, .slice oa on oc, .int .i64 nn, .int .i64 at1, .slice b1 b2 b3, .int .u8 fq] 52 (0, 0)) bs bd bl y Dk (L.length + 1) w6 ∧ w6.ownsRow wz.heap.size 41 3 (.slice xb (j + 1) xc) (j + 1) (xs ++ [.int .u32 (sq1 : Int), .bool st1, .slice da l1.length l1.length]) ∧ OldV wz.heap.size w6 c.r.length Dk (j + 1) (xs ++ [.int .u32 (sq1 : Int), .bool st1, .slice da l1.length l1.length]) ∧ Below wz.heap.size wz w6) := Lib.hid (by
              have hzw := HZW.out
              have hne : ∀ k, (∃ cur, w5.heap[k]? = some (.cells cur 3 (0, 0))) → ¬ ((Value.slice b' j c').ownBlock = some k) := fun k ⟨cur, hc⟩ hk => by
                obtain ⟨cur2, hc2⟩ := owns_block HOW4.out hk
                rw [hc] at hc2
                exact absurd (Obj.cells.inj (Option.some.inj hc2)).2.1 (by decide)
              refine ⟨⟨HJ4.out.st.put' (HJZ.out.st.cfg.low.below HBZ4.out) ht6 hob (lt_of_heap HJZ.out.st.cells) hzw.2, HJ4.out.inv, HJ4.out.left, ht6.heap HJ4.out.cfg (fun e => by have := hob _ e; omega), HJ4.out.bel.trans (ht6.below HJ4.out.bel.size (fun k hk e => by have := hob _ e; omega))⟩, hown6, ?_, HBZ4.out.trans (ht6.below HBZ4.out.size (fun k hk e => by have := hob _ e; omega))⟩
              refine (HOV4.out.touch ht6 (fun k _ hc => hne k hc)).snoc HRR.out ?_
              obtain ⟨cc, hn⟩ := HN4.out
              exact ⟨cc, owns_touch hn ht6 (fun k hk => hne k (owns_block hn hk))⟩)
            clear hown6 hg6 hat6 ht6 hob hb5 k0 k1 k2 HOWA HAT HSZ HJ4 HOW4 HOV4 HBZ4 HN4 hw5 HRR h31
            go_wp2_with fail
            go_roundw
            case rel => exact ⟨j + 1, xb, xc, _, by omega, by go_num, rfl, HS6⟩
            case measure => have := HM'.out; simp [intOf]; omega
          · have hjj : j = c.s.length := by omega
            subst hjj
            obtain ⟨q8, hq8, hq8l⟩ : ∃ q8 : Nat, ((fq : Int) % 8) = (q8 : Int) ∧ q8 < 8 := ⟨fq % 8, by rw [Int.natCast_emod]; rfl, Nat.mod_lt _ (by decide)⟩
            have s16 : wr.cell? ⟨w.heap.size, 16, none⟩ = some (.int .u8 fq) := by rw [cell_of_block HS.out.1.cfg]; rfl
            go_wp2_with fail
            rw [hq8]
            clear s16 hq8 s1
            refine (fuse_ok bd bl Dk (q8 : Int) wr HS.out.1.st.disk HS.out.1.inv.blown).mono ?_; rintro e w4 ⟨rfl, ht4, hd4⟩
            have hS4 : ∀ k, k = bd → wz.heap.size ≤ k → False := fun k hk h => by have := HZW.out; omega
            have ht4' : Touch (fun k => k = bd ∨ k = bl) wr w4 := ht4.weaken (fun k _ hk => .inl hk)
            have HS4 : Hid (IsStore w4 bs bd bl y c (fuseD Dk q8) ∧ w4.ownsRow wz.heap.size 41 3 (.slice b' c.s.length c') c.s.length xs ∧ OldV wz.heap.size w4 c.r.length Dk c.s.length xs ∧ w4.heap[w.heap.size]? = some (.cells #[.slice ra rn rc, .slice sa c.s.length sc, .slice aa an ac, .slice ua un uc, .int .u64 (c.t : Int), .slice la L.length lc, .int .u8 kd, .int .i64 who, .int .u32 sq, .bool st, .slice ba bn bc, .int .u8 p, .slice oa on oc, .int .i64 nn, .int .i64 at1, .slice b1 b2 b3, .int .u8 fq] 52 (0, 0)) ∧ Below w.heap.size w w4) := Lib.hid
              ⟨HS.out.1.st.put ht4' hd4, owns_touch HS.out.2.1 ht4 (fun k hk e => hS4 k e (owns_base HS.out.2.1 k hk)), HS.out.2.2.1.touch ht4 (fun k hk _ e => hS4 k e hk), ht4'.heap HS.out.1.cfg (HG.out _ (Nat.le_refl _)), HS.out.1.bel.trans (ht4'.below HS.out.1.bel.size (fun k hk => HG.out k (Nat.le_of_lt hk)))⟩
            have HINV := Lib.hid HS.out.1.inv
            clear ht4 ht4' hd4 hS4 HS
            have k6 : w4.cell? ⟨w.heap.size, 6, none⟩ = some (.int .u8 kd) := by rw [cell_of_block HS4.out.2.2.2.1]; rfl
            have k7 : w4.cell? ⟨w.heap.size, 7, none⟩ = some (.int .i64 who) := by rw [cell_of_block HS4.out.2.2.2.1]; rfl
            have k8 : w4.cell? ⟨w.heap.size, 8, none⟩ = some (.int .u32 sq) := by rw [cell_of_block HS4.out.2.2.2.1]; rfl
            have k9 : w4.cell? ⟨w.heap.size, 9, none⟩ = some (.bool st) := by rw [cell_of_block HS4.out.2.2.2.1]; rfl
            have k10 : w4.cell? ⟨w.heap.size, 10, none⟩ = some (.slice ba bn bc) := by rw [cell_of_block HS4.out.2.2.2.1]; rfl
            have k11 : w4.cell? ⟨w.heap.size, 11, none⟩ = some (.int .u8 p) := by rw [cell_of_block HS4.out.2.2.2.1]; rfl
            have k12 : w4.cell? ⟨w.heap.size, 12, none⟩ = some (.slice oa on oc) := by rw [cell_of_block HS4.out.2.2.2.1]; rfl
            have hfine : (fuseD Dk q8).fine (6 * ((L.length + 1 : Nat) : Int)) := (HINV.out.fuse q8 (by omega)).fine
            have HFI := Lib.hid hfine
            clear hfine
            by_cases hset : kd % 10 < 4
            · have ds1 : decide ((kd : Int) % 10 < 4) = true := decide_eq_true (by omega)
              have ds2 : decide (kd % 10 < 4) = true := decide_eq_true hset
              go_wp2_with fail
              clear k6 k7 k8 k9 k10 k11 k12 ds1 ds2
              refine (set_all bs bd bl y c (fuseD Dk q8) who sq st ba bn bc bl0 (6 * ((L.length + 1 : Nat) : Int)) w4 HS4.out.1 (HMO.out.r.i.below HS4.out.2.2.2.2) HMO.out.r.sq (by omega) hr8 HFI.out (by push_cast; omega) (fun i hi => (HINV.out.fuse q8 (by omega)).ltR i hi)).mono ?_; rintro e w5 ⟨rfl, ht5, hd5⟩
              obtain ⟨e1, D5, t1, t2, t3, t4, t5⟩ := HINV.out.set_fuse q8 hq8l who ⟨sq, st, bl0⟩ HMO.out.r.sq
              rw [t1] at hd5 ⊢
              dsimp only at hd5 ⊢
              have HI5 := Lib.hid t2
              have HPH : Hid ((phD c.s.length (copyD D5)).1 = (phD c.s.length Dk).1) := Lib.hid (by rw [t3])
              have HRC : Hid (∀ i, i < c.s.length → (rcD c.r.length (copyD D5) i).1 = if e1 = 0 ∧ (i : Int) = who then ⟨sq, st, bl0⟩ else (rcD c.r.length Dk i).1) := Lib.hid (fun i hi => by
                by_cases h : e1 = 0 ∧ (i : Int) = who
                · rw [if_pos h]
                  obtain ⟨_, _, h5⟩ := t5 h.1
                  rw [← h.2, Int.toNat_natCast] at h5
                  rw [h5]
                · rw [if_neg h, t4 i hi (fun h0 hw => h ⟨h0, hw⟩)])
              clear t1 t2 t3 t4 t5
              have HS5 : Hid (w5.ownsRow wz.heap.size 41 3 (.slice b' c.s.length c') c.s.length xs ∧ OldV wz.heap.size w5 c.r.length Dk c.s.length xs ∧ w5.heap[w.heap.size]? = some (.cells #[.slice ra rn rc, .slice sa c.s.length sc, .slice aa an ac, .slice ua un uc, .int .u64 (c.t : Int), .slice la L.length lc, .int .u8 kd, .int .i64 who, .int .u32 sq, .bool st, .slice ba bn bc, .int .u8 p, .slice oa on oc, .int .i64 nn, .int .i64 at1, .slice b1 b2 b3, .int .u8 fq] 52 (0, 0)) ∧ Below w.heap.size w w5) := Lib.hid
                ⟨owns_touch HS4.out.2.1 ht5 (fun k hk e => by have h1 := owns_base HS4.out.2.1 k hk; have h2 := HZW.out; omega), HS4.out.2.2.1.touch ht5 (fun k hk _ e => by have h2 := HZW.out; omega), ht5.heap HS4.out.2.2.2.1 (HG.out _ (Nat.le_refl _)), HS4.out.2.2.2.2.trans (ht5.below HS4.out.2.2.2.2.size (fun k hk => HG.out k (Nat.le_of_lt hk)))⟩
              clear ht5 HS4
              by_cases he : e1 = 0
              · subst he
                go_wp2_with fail
                refine (copy_disk' bd bl D5 w5 hd5).mono ?_; rintro e w6 ⟨cd, cl, rfl, hb6, _, _, hd6⟩
                have HS6 : Hid (w6.ownsRow wz.heap.size 41 3 (.slice b' c.s.length c') c.s.length xs ∧ OldV wz.heap.size w6 c.r.length Dk c.s.length xs ∧ w6.heap[w.heap.size]? = some (.cells #[.slice ra rn rc, .slice sa c.s.length sc, .slice aa an ac, .slice ua un uc, .int .u64 (c.t : Int), .slice la L.length lc, .int .u8 kd, .int .i64 who, .int .u32 sq, .bool st, .slice ba bn bc, .int .u8 p, .slice oa on oc, .int .i64 nn, .int .i64 at1, .slice b1 b2 b3, .int .u8 fq] 52 (0, 0)) ∧ Below w.heap.size w w6) := Lib.hid
                  ⟨owns_below HS5.out.1 hb6, HS5.out.2.1.below hb6, below_heap hb6 HS5.out.2.2.1 (lt_of_heap HS5.out.2.2.1), HS5.out.2.2.2.trans (hb6.mono HS5.out.2.2.2.size)⟩
                have HD6 := Lib.hid hd6
                clear hb6 hd6 hd5 HS5
                go_wp2_with fail
                refine (open_any cd cl (copyD D5) w6 HD6.out).mono ?_; rintro e w7 ⟨hoq, hb7⟩
                obtain ⟨bs2, y2, rfl, hs2⟩ : ∃ (bs2 : Nat) (y2 : StA), e = .returned (.tuple #[.pointer (some ⟨bs2, 0, none⟩), .int .i64 0]) ∧ IsStore w7 bs2 cd cl y2 c (copyD D5) := by
                  rcases hoq with ⟨q, h1, _⟩ | ⟨c'', h1, bs2, y2, h2, h3, _⟩
                  · rw [HI5.out.open] at h1; cases h1
                  · rw [HI5.out.open] at h1; cases h1; exact ⟨bs2, y2, h2, h3⟩
                have HT : Hid (TnS w wz c (.cells #[.slice ra rn rc, .slice sa c.s.length sc, .slice aa an ac, .slice ua un uc, .int .u64 (c.t : Int), .slice la L.length lc, .int .u8 kd, .int .i64 who, .int .u32 sq, .bool st, .slice ba bn bc, .int .u8 p, .slice oa on oc, .int .i64 nn, .int .i64 at1, .slice b1 b2 b3, .int .u8 fq] 52 (0, 0)) c.r.length Dk b' c' xs bs2 cd cl y2 (copyD D5) w7) := Lib.hid
                  ⟨hs2, owns_below HS6.out.1 hb7, HS6.out.2.1.below hb7, below_heap hb7 HS6.out.2.2.1 (lt_of_heap HS6.out.2.2.1), HS6.out.2.2.2.trans (hb7.mono HS6.out.2.2.2.size)⟩
                clear hoq hb7 hs2 HS6 HD6
                go_wp2_with fail
                refine (phase_pub bs2 cd cl y2 c (copyD D5) w7 HT.out.st2).mono ?_; rintro e w8 ⟨rfl, hb8⟩
                rw [HPH.out]
                have HT8 := Lib.hid (HT.out.below hb8)
                clear hb8 HT
                have HT := HT8
                clear HT8
                go_wp2_with fail
                obtain ⟨M2, hM2⟩ : ∃ M2, M2 = c.s.length := ⟨_, rfl⟩
                have HM2' := Lib.hid hM2
                clear hM2
                go_loopw [18] (fun i wq => ∃ j : Nat, j ≤ c.s.length ∧ i = .int .i64 j ∧ Hid (TnS w wz c (.cells #[.slice ra rn rc, .slice sa c.s.length sc, .slice aa an ac, .slice ua un uc, .int .u64 (c.t : Int), .slice la L.length lc, .int .u8 kd, .int .i64 who, .int .u32 sq, .bool st, .slice ba bn bc, .int .u8 p, .slice oa on oc, .int .i64 nn, .int .i64 at1, .slice b1 b2 b3, .int .u8 fq] 52 (0, 0)) c.r.length Dk b' c' xs bs2 cd cl y2 (copyD D5) wq)) (fun i _ => M2 - (intOf i).toNat)
                case atStart => exact ⟨0, Nat.zero_le _, rfl, HT⟩
                case round =>
                  clear HT
                  obtain ⟨j, hj, rfl, HT⟩ := hrel
                  by_cases hlt3 : j < c.s.length
                  · obtain ⟨gb, rfl⟩ : ∃ gb, b' = some ⟨gb, 0, none⟩ := by
                      rcases HT.out.row.2 with ⟨_, h0⟩ | ⟨g, _, _, h, _⟩
                      · omega
                      · cases h; exact ⟨g, rfl⟩
                    go_wp2_with fail
                    refine (record_ok bs2 cd cl y2 c (copyD D5) j wr HT.out.st2 hlt3 (by omega) hr8).mono ?_; rintro e w8 ⟨r2a, rfl, hb8, hn8⟩
                    have HRJ := Lib.hid (HRC.out j hlt3)
                    obtain ⟨oa1, x0, x1, x2, x3⟩ := HT.out.old.2 j hlt3
                    have hra : wr.rangeAt gb (j * 3) [.int .u32 ((rcD c.r.length Dk j).1.seq : Int), .bool (rcD c.r.length Dk j).1.stands, .slice oa1 (rcD c.r.length Dk j).1.bid.length (rcD c.r.length Dk j).1.bid.length] := fun i v hv => by
                      match i, hv with
                      | 0, hv => cases hv; exact owns_cells3 HT.out.row _ _ x0
                      | 1, hv => cases hv; exact owns_cells3 HT.out.row _ _ x1
                      | 2, hv => cases hv; exact owns_cells3 HT.out.row _ _ x2
                    have hgb : gb < wr.heap.size := by
                      rcases HT.out.row.2 with ⟨h, _⟩ | ⟨g, _, _, h, _, hg, _⟩
                      · cases h
                      · cases h; exact lt_of_heap hg
                    obtain ⟨⟨⟨sq1, st1, l1⟩, ok1⟩, hrr⟩ : ∃ r, rcD c.r.length (copyD D5) j = r := ⟨_, rfl⟩
                    obtain ⟨⟨sq2, st2, l2⟩, hr2⟩ : ∃ r, (rcD c.r.length Dk j).1 = r := ⟨_, rfl⟩
                    rw [hrr] at hn8 HRJ ⊢
                    rw [hr2] at hra x3 HRJ
                    dsimp only at hn8 HRJ hra x3 ⊢
                    have hbA : Below wr.heap.size wr (w8.alloc (.cells #[.int .u32 (sq1 : Int), .bool st1, .slice r2a l1.length l1.length] 41 (0, 0))) := hb8.alloc hb8.size _
                    have HTA := Lib.hid (HT.out.below hbA)
                    have HRA : Hid ((w8.alloc (.cells #[.int .u32 (sq1 : Int), .bool st1, .slice r2a l1.length l1.length] 41 (0, 0))).rangeAt gb (j * 3) [.int .u32 (sq2 : Int), .bool st2, .slice oa1 l2.length l2.length]) := Lib.hid (fun i v hv => (hbA.cell (p := ⟨gb, j * 3 + i, none⟩) hgb).trans (hra i v hv))
                    have HX3 := Lib.hid (x3.isI.below hbA)
                    have HN8 := Lib.hid (hn8.isI.below ((Below.refl _ w8).alloc (Nat.le_refl _) (.cells #[.int .u32 (sq1 : Int), .bool st1, .slice r2a l1.length l1.length] 41 (0, 0))))
                    have HV8 := Lib.hid (heap_new w8 (.cells #[.int .u32 (sq1 : Int), .bool st1, .slice r2a l1.length l1.length] 41 (0, 0)))
                    clear hb8 hn8 hbA hra x0 x1 x2 x3 hrr hr2 HT hgb
                    generalize hw9 : w8.alloc (.cells #[.int .u32 (sq1 : Int), .bool st1, .slice r2a l1.length l1.length] 41 (0, 0)) = w9 at HTA HRA HX3 HN8 HV8
                    have hb9 : ∀ o, Below w9.heap.size w9 (w9.alloc o) := fun o => (Below.refl _ _).alloc (Nat.le_refl _) o
                    have q0 : w9.cell? ⟨gb, j * 3, none⟩ = some (.int .u32 (sq2 : Int)) := HRA.out 0 _ rfl
                    have q1 : w9.cell? ⟨gb, j * 3 + 1, none⟩ = some (.bool st2) := HRA.out 1 _ rfl
                    have q2 : w9.cell? ⟨gb, j * 3 + 2, none⟩ = some (.slice oa1 l2.length l2.length) := HRA.out 2 _ rfl
                    have q3 : w9.cell? ⟨gb, 0 + j * 3, none⟩ = some (.int .u32 (sq2 : Int)) := by rw [Nat.zero_add]; exact HRA.out 0 _ rfl
                    by_cases hwj : (j : Int) = who
                    · have hwj' := hwj
                      subst hwj'
                      have HEQ : Hid ((⟨sq1, st1, l1⟩ : StR) = ⟨sq, st, bl0⟩) := Lib.hid (HRJ.out.trans (if_pos (by simp)))
                      obtain ⟨e1q, e2q, e3q⟩ : sq1 = sq ∧ st1 = st ∧ l1 = bl0 := StR.mk.inj HEQ.out
                      subst e1q e2q e3q
                      have HTB := Lib.hid (HTA.out.below (hb9 (.cells #[.int .u32 (sq1 : Int), .bool st1, .slice ba bn bc] 41 (0, 0))))
                      have HXB := Lib.hid (HMO.out.r.i.below (HTA.out.bel.trans ((hb9 (.cells #[.int .u32 (sq1 : Int), .bool st1, .slice ba bn bc] 41 (0, 0))).mono HTA.out.bel.size)))
                      have HNB := Lib.hid (HN8.out.below (hb9 (.cells #[.int .u32 (sq1 : Int), .bool st1, .slice ba bn bc] 41 (0, 0))))
                      have vB := below_heap (hb9 (.cells #[.int .u32 (sq1 : Int), .bool st1, .slice ba bn bc] 41 (0, 0))) HV8.out (lt_of_heap HV8.out)
                      have a0 : (w9.alloc (.cells #[.int .u32 (sq1 : Int), .bool st1, .slice ba bn bc] 41 (0, 0))).cell? ⟨w8.heap.size, 0, none⟩ = some (.int .u32 (sq1 : Int)) := by rw [cell_of_block vB]; rfl
                      have a1 : (w9.alloc (.cells #[.int .u32 (sq1 : Int), .bool st1, .slice ba bn bc] 41 (0, 0))).cell? ⟨w8.heap.size, 1, none⟩ = some (.bool st1) := by rw [cell_of_block vB]; rfl
                      have a2 : (w9.alloc (.cells #[.int .u32 (sq1 : Int), .bool st1, .slice ba bn bc] 41 (0, 0))).cell? ⟨w8.heap.size, 2, none⟩ = some (.slice r2a l1.length l1.length) := by rw [cell_of_block vB]; rfl
                      have y0 := cell_alloc (show w9.cell? ⟨w.heap.size, 7, none⟩ = some (.int .i64 (j : Int)) by rw [cell_of_block HTA.out.cfg]; rfl) (.cells #[.int .u32 (sq2 : Int), .bool st2, .slice oa1 l2.length l2.length] 41 (0, 0))
                      have y1 := cell_alloc (show w9.cell? ⟨w.heap.size, 8, none⟩ = some (.int .u32 sq1) by rw [cell_of_block HTA.out.cfg]; rfl) (.cells #[.int .u32 (sq2 : Int), .bool st2, .slice oa1 l2.length l2.length] 41 (0, 0))
                      have y2 := cell_alloc (show w9.cell? ⟨w.heap.size, 9, none⟩ = some (.bool st1) by rw [cell_of_block HTA.out.cfg]; rfl) (.cells #[.int .u32 (sq2 : Int), .bool st2, .slice oa1 l2.length l2.length] 41 (0, 0))
                      have y3 := cell_alloc (show w9.cell? ⟨w.heap.size, 10, none⟩ = some (.slice ba bn bc) by rw [cell_of_block HTA.out.cfg]; rfl) (.cells #[.int .u32 (sq2 : Int), .bool st2, .slice oa1 l2.length l2.length] 41 (0, 0))
                      clear HTA HX3 HN8 HV8 vB hb9
                      go_wp2_with fail
                      generalize w9.alloc (.cells #[.int .u32 (sq1 : Int), .bool st1, .slice ba bn bc] 41 (0, 0)) = wB at HTB HXB HNB ⊢
                      refine (sameR_any sq1 sq1 st1 st1 r2a ba l1.length bn l1.length bc l1 l1 wB HNB.out HXB.out).mono ?_; rintro e wC ⟨rfl, hbC⟩
                      rw [show decide ((⟨sq1, st1, l1⟩ : StR) = ⟨sq1, st1, l1⟩) = true from decide_eq_true rfl]
                      have HTC := Lib.hid (HTB.out.below hbC)
                      clear hbC HTB HXB HNB y0 y1 y2 y3
                      go_wp2_with fail
                      go_roundw
                      case rel => exact ⟨j + 1, by omega, by go_num, HTC⟩
                      case measure => have := HM2'.out; simp [intOf]; omega
                    · have HEQ : Hid ((⟨sq1, st1, l1⟩ : StR) = ⟨sq2, st2, l2⟩) := Lib.hid (HRJ.out.trans (if_neg (fun h => hwj h.2)))
                      have dw : ((j : Int) == who) = false := by rw [beq_eq_false_iff_ne]; exact hwj
                      obtain ⟨e1q, e2q, e3q⟩ : sq1 = sq2 ∧ st1 = st2 ∧ l1 = l2 := StR.mk.inj HEQ.out
                      subst e1q e2q e3q
                      have HTB := Lib.hid (HTA.out.below (hb9 (.cells #[.int .u32 (sq1 : Int), .bool st1, .slice oa1 l1.length l1.length] 41 (0, 0))))
                      have HXB := Lib.hid (HX3.out.below (hb9 (.cells #[.int .u32 (sq1 : Int), .bool st1, .slice oa1 l1.length l1.length] 41 (0, 0))))
                      have HNB := Lib.hid (HN8.out.below (hb9 (.cells #[.int .u32 (sq1 : Int), .bool st1, .slice oa1 l1.length l1.length] 41 (0, 0))))
                      have vB := below_heap (hb9 (.cells #[.int .u32 (sq1 : Int), .bool st1, .slice oa1 l1.length l1.length] 41 (0, 0))) HV8.out (lt_of_heap HV8.out)
                      have a0 : (w9.alloc (.cells #[.int .u32 (sq1 : Int), .bool st1, .slice oa1 l1.length l1.length] 41 (0, 0))).cell? ⟨w8.heap.size, 0, none⟩ = some (.int .u32 (sq1 : Int)) := by rw [cell_of_block vB]; rfl
                      have a1 : (w9.alloc (.cells #[.int .u32 (sq1 : Int), .bool st1, .slice oa1 l1.length l1.length] 41 (0, 0))).cell? ⟨w8.heap.size, 1, none⟩ = some (.bool st1) := by rw [cell_of_block vB]; rfl
                      have a2 : (w9.alloc (.cells #[.int .u32 (sq1 : Int), .bool st1, .slice oa1 l1.length l1.length] 41 (0, 0))).cell? ⟨w8.heap.size, 2, none⟩ = some (.slice r2a l1.length l1.length) := by rw [cell_of_block vB]; rfl
                      have y0 := cell_alloc (show w9.cell? ⟨w.heap.size, 7, none⟩ = some (.int .i64 who) by rw [cell_of_block HTA.out.cfg]; rfl) (.cells #[.int .u32 (sq1 : Int), .bool st1, .slice oa1 l1.length l1.length] 41 (0, 0))
                      clear HTA HX3 HN8 HV8 vB hb9
                      go_wp2_with fail
                      generalize w9.alloc (.cells #[.int .u32 (sq1 : Int), .bool st1, .slice oa1 l1.length l1.length] 41 (0, 0)) = wB at HTB HXB HNB ⊢
                      refine (sameR_any sq1 sq1 st1 st1 r2a oa1 l1.length l1.length l1.length l1.length l1 l1 wB HNB.out HXB.out).mono ?_; rintro e wC ⟨rfl, hbC⟩
                      rw [show decide ((⟨sq1, st1, l1⟩ : StR) = ⟨sq1, st1, l1⟩) = true from decide_eq_true rfl]
                      have HTC := Lib.hid (HTB.out.below hbC)
                      clear hbC HTB HXB HNB
                      go_wp2_with fail
                      go_roundw
                      case rel => exact ⟨j + 1, by omega, by go_num, HTC⟩
                      case measure => have := HM2'.out; simp [intOf]; omega
                  · have hjj : j = c.s.length := by omega
                    subst hjj
                    go_wp2_with fail
                    refine (HLI.out wr HT.out.bel).mono ?_; rintro e wF ⟨rfl, hbF⟩
                    go_wp2_with fail
                    go_ret
                    exact ⟨rfl, hbF⟩
              · have he1 : (e1 == 0) = false := by rw [beq_eq_false_iff_ne]; exact he
                go_wp2_with fail
                refine (copy_disk' bd bl D5 w5 hd5).mono ?_; rintro e w6 ⟨cd, cl, rfl, hb6, _, _, hd6⟩
                have HS6 : Hid (w6.ownsRow wz.heap.size 41 3 (.slice b' c.s.length c') c.s.length xs ∧ OldV wz.heap.size w6 c.r.length Dk c.s.length xs ∧ w6.heap[w.heap.size]? = some (.cells #[.slice ra rn rc, .slice sa c.s.length sc, .slice aa an ac, .slice ua un uc, .int .u64 (c.t : Int), .slice la L.length lc, .int .u8 kd, .int .i64 who, .int .u32 sq, .bool st, .slice ba bn bc, .int .u8 p, .slice oa on oc, .int .i64 nn, .int .i64 at1, .slice b1 b2 b3, .int .u8 fq] 52 (0, 0)) ∧ Below w.heap.size w w6) := Lib.hid
                  ⟨owns_below HS5.out.1 hb6, HS5.out.2.1.below hb6, below_heap hb6 HS5.out.2.2.1 (lt_of_heap HS5.out.2.2.1), HS5.out.2.2.2.trans (hb6.mono HS5.out.2.2.2.size)⟩
                have HD6 := Lib.hid hd6
                clear hb6 hd6 hd5 HS5
                go_wp2_with fail
                refine (open_any cd cl (copyD D5) w6 HD6.out).mono ?_; rintro e w7 ⟨hoq, hb7⟩
                obtain ⟨bs2, y2, rfl, hs2⟩ : ∃ (bs2 : Nat) (y2 : StA), e = .returned (.tuple #[.pointer (some ⟨bs2, 0, none⟩), .int .i64 0]) ∧ IsStore w7 bs2 cd cl y2 c (copyD D5) := by
                  rcases hoq with ⟨q, h1, _⟩ | ⟨c'', h1, bs2, y2, h2, h3, _⟩
                  · rw [HI5.out.open] at h1; cases h1
                  · rw [HI5.out.open] at h1; cases h1; exact ⟨bs2, y2, h2, h3⟩
                have HT : Hid (TnS w wz c (.cells #[.slice ra rn rc, .slice sa c.s.length sc, .slice aa an ac, .slice ua un uc, .int .u64 (c.t : Int), .slice la L.length lc, .int .u8 kd, .int .i64 who, .int .u32 sq, .bool st, .slice ba bn bc, .int .u8 p, .slice oa on oc, .int .i64 nn, .int .i64 at1, .slice b1 b2 b3, .int .u8 fq] 52 (0, 0)) c.r.length Dk b' c' xs bs2 cd cl y2 (copyD D5) w7) := Lib.hid
                  ⟨hs2, owns_below HS6.out.1 hb7, HS6.out.2.1.below hb7, below_heap hb7 HS6.out.2.2.1 (lt_of_heap HS6.out.2.2.1), HS6.out.2.2.2.trans (hb7.mono HS6.out.2.2.2.size)⟩
                clear hoq hb7 hs2 HS6 HD6
                go_wp2_with fail
                refine (phase_pub bs2 cd cl y2 c (copyD D5) w7 HT.out.st2).mono ?_; rintro e w8 ⟨rfl, hb8⟩
                rw [HPH.out]
                have HT8 := Lib.hid (HT.out.below hb8)
                clear hb8 HT
                have HT := HT8
                clear HT8
                go_wp2_with fail
                obtain ⟨M2, hM2⟩ : ∃ M2, M2 = c.s.length := ⟨_, rfl⟩
                have HM2' := Lib.hid hM2
                clear hM2
                go_loopw [18] (fun i wq => ∃ j : Nat, j ≤ c.s.length ∧ i = .int .i64 j ∧ Hid (TnS w wz c (.cells #[.slice ra rn rc, .slice sa c.s.length sc, .slice aa an ac, .slice ua un uc, .int .u64 (c.t : Int), .slice la L.length lc, .int .u8 kd, .int .i64 who, .int .u32 sq, .bool st, .slice ba bn bc, .int .u8 p, .slice oa on oc, .int .i64 nn, .int .i64 at1, .slice b1 b2 b3, .int .u8 fq] 52 (0, 0)) c.r.length Dk b' c' xs bs2 cd cl y2 (copyD D5) wq)) (fun i _ => M2 - (intOf i).toNat)
                case atStart => exact ⟨0, Nat.zero_le _, rfl, HT⟩
                case round =>
                  clear HT
                  obtain ⟨j, hj, rfl, HT⟩ := hrel
                  by_cases hlt3 : j < c.s.length
                  · obtain ⟨gb, rfl⟩ : ∃ gb, b' = some ⟨gb, 0, none⟩ := by
                      rcases HT.out.row.2 with ⟨_, h0⟩ | ⟨g, _, _, h, _⟩
                      · omega
                      · cases h; exact ⟨g, rfl⟩
                    go_wp2_with fail
                    refine (record_ok bs2 cd cl y2 c (copyD D5) j wr HT.out.st2 hlt3 (by omega) hr8).mono ?_; rintro e w8 ⟨r2a, rfl, hb8, hn8⟩
                    have HRJ := Lib.hid (HRC.out j hlt3)
                    obtain ⟨oa1, x0, x1, x2, x3⟩ := HT.out.old.2 j hlt3
                    have hra : wr.rangeAt gb (j * 3) [.int .u32 ((rcD c.r.length Dk j).1.seq : Int), .bool (rcD c.r.length Dk j).1.stands, .slice oa1 (rcD c.r.length Dk j).1.bid.length (rcD c.r.length Dk j).1.bid.length] := fun i v hv => by
                      match i, hv with
                      | 0, hv => cases hv; exact owns_cells3 HT.out.row _ _ x0
                      | 1, hv => cases hv; exact owns_cells3 HT.out.row _ _ x1
                      | 2, hv => cases hv; exact owns_cells3 HT.out.row _ _ x2
                    have hgb : gb < wr.heap.size := by
                      rcases HT.out.row.2 with ⟨h, _⟩ | ⟨g, _, _, h, _, hg, _⟩
                      · cases h
                      · cases h; exact lt_of_heap hg
                    obtain ⟨⟨⟨sq1, st1, l1⟩, ok1⟩, hrr⟩ : ∃ r, rcD c.r.length (copyD D5) j = r := ⟨_, rfl⟩
                    obtain ⟨⟨sq2, st2, l2⟩, hr2⟩ : ∃ r, (rcD c.r.length Dk j).1 = r := ⟨_, rfl⟩
                    rw [hrr] at hn8 HRJ ⊢
                    rw [hr2] at hra x3 HRJ
                    dsimp only at hn8 HRJ hra x3 ⊢
                    have hbA : Below wr.heap.size wr (w8.alloc (.cells #[.int .u32 (sq1 : Int), .bool st1, .slice r2a l1.length l1.length] 41 (0, 0))) := hb8.alloc hb8.size _
                    have HTA := Lib.hid (HT.out.below hbA)
                    have HRA : Hid ((w8.alloc (.cells #[.int .u32 (sq1 : Int), .bool st1, .slice r2a l1.length l1.length] 41 (0, 0))).rangeAt gb (j * 3) [.int .u32 (sq2 : Int), .bool st2, .slice oa1 l2.length l2.length]) := Lib.hid (fun i v hv => (hbA.cell (p := ⟨gb, j * 3 + i, none⟩) hgb).trans (hra i v hv))
                    have HX3 := Lib.hid (x3.isI.below hbA)
                    have HN8 := Lib.hid (hn8.isI.below ((Below.refl _ w8).alloc (Nat.le_refl _) (.cells #[.int .u32 (sq1 : Int), .bool st1, .slice r2a l1.length l1.length] 41 (0, 0))))
                    have HV8 := Lib.hid (heap_new w8 (.cells #[.int .u32 (sq1 : Int), .bool st1, .slice r2a l1.length l1.length] 41 (0, 0)))
                    clear hb8 hn8 hbA hra x0 x1 x2 x3 hrr hr2 HT hgb
                    generalize hw9 : w8.alloc (.cells #[.int .u32 (sq1 : Int), .bool st1, .slice r2a l1.length l1.length] 41 (0, 0)) = w9 at HTA HRA HX3 HN8 HV8
                    have hb9 : ∀ o, Below w9.heap.size w9 (w9.alloc o) := fun o => (Below.refl _ _).alloc (Nat.le_refl _) o
                    have q0 : w9.cell? ⟨gb, j * 3, none⟩ = some (.int .u32 (sq2 : Int)) := HRA.out 0 _ rfl
                    have q1 : w9.cell? ⟨gb, j * 3 + 1, none⟩ = some (.bool st2) := HRA.out 1 _ rfl
                    have q2 : w9.cell? ⟨gb, j * 3 + 2, none⟩ = some (.slice oa1 l2.length l2.length) := HRA.out 2 _ rfl
                    have q3 : w9.cell? ⟨gb, 0 + j * 3, none⟩ = some (.int .u32 (sq2 : Int)) := by rw [Nat.zero_add]; exact HRA.out 0 _ rfl
                    have HEQ : Hid ((⟨sq1, st1, l1⟩ : StR) = ⟨sq2, st2, l2⟩) := Lib.hid (HRJ.out.trans (if_neg (fun h => he h.1)))
                    obtain ⟨e1q, e2q, e3q⟩ : sq1 = sq2 ∧ st1 = st2 ∧ l1 = l2 := StR.mk.inj HEQ.out
                    subst e1q e2q e3q
                    have HTB := Lib.hid (HTA.out.below (hb9 (.cells #[.int .u32 (sq1 : Int), .bool st1, .slice oa1 l1.length l1.length] 41 (0, 0))))
                    have HXB := Lib.hid (HX3.out.below (hb9 (.cells #[.int .u32 (sq1 : Int), .bool st1, .slice oa1 l1.length l1.length] 41 (0, 0))))
                    have HNB := Lib.hid (HN8.out.below (hb9 (.cells #[.int .u32 (sq1 : Int), .bool st1, .slice oa1 l1.length l1.length] 41 (0, 0))))
                    have vB := below_heap (hb9 (.cells #[.int .u32 (sq1 : Int), .bool st1, .slice oa1 l1.length l1.length] 41 (0, 0))) HV8.out (lt_of_heap HV8.out)
                    have a0 : (w9.alloc (.cells #[.int .u32 (sq1 : Int), .bool st1, .slice oa1 l1.length l1.length] 41 (0, 0))).cell? ⟨w8.heap.size, 0, none⟩ = some (.int .u32 (sq1 : Int)) := by rw [cell_of_block vB]; rfl
                    have a1 : (w9.alloc (.cells #[.int .u32 (sq1 : Int), .bool st1, .slice oa1 l1.length l1.length] 41 (0, 0))).cell? ⟨w8.heap.size, 1, none⟩ = some (.bool st1) := by rw [cell_of_block vB]; rfl
                    have a2 : (w9.alloc (.cells #[.int .u32 (sq1 : Int), .bool st1, .slice oa1 l1.length l1.length] 41 (0, 0))).cell? ⟨w8.heap.size, 2, none⟩ = some (.slice r2a l1.length l1.length) := by rw [cell_of_block vB]; rfl
                    clear HTA HX3 HN8 HV8 vB hb9
                    go_wp2_with fail
                    generalize w9.alloc (.cells #[.int .u32 (sq1 : Int), .bool st1, .slice oa1 l1.length l1.length] 41 (0, 0)) = wB at HTB HXB HNB ⊢
                    refine (sameR_any sq1 sq1 st1 st1 r2a oa1 l1.length l1.length l1.length l1.length l1 l1 wB HNB.out HXB.out).mono ?_; rintro e wC ⟨rfl, hbC⟩
                    rw [show decide ((⟨sq1, st1, l1⟩ : StR) = ⟨sq1, st1, l1⟩) = true from decide_eq_true rfl]
                    have HTC := Lib.hid (HTB.out.below hbC)
                    clear hbC HTB HXB HNB
                    go_wp2_with fail
                    go_roundw
                    case rel => exact ⟨j + 1, by omega, by go_num, HTC⟩
                    case measure => have := HM2'.out; simp [intOf]; omega
                  · have hjj : j = c.s.length := by omega
                    subst hjj
                    go_wp2_with fail
                    refine (HLI.out wr HT.out.bel).mono ?_; rintro e wF ⟨rfl, hbF⟩
                    go_wp2_with fail
                    go_ret
                    exact ⟨rfl, hbF⟩
            · have ds1 : decide ((kd : Int) % 10 < 4) = false := decide_eq_false (by omega)
              have ds2 : decide (kd % 10 < 4) = false := decide_eq_false hset
              go_wp2_with fail
              clear k6 k7 k8 k9 k10 k11 k12 ds1 ds2
              refine (turn_pub bs bd bl y c (fuseD Dk q8) p oa on oc ol (6 * ((L.length + 1 : Nat) : Int)) w4 HS4.out.1 (HMO.out.o.1.below HS4.out.2.2.2.2) HMO.out.o.2 HMO.out.p HFI.out (by push_cast; omega) (HINV.out.fuse q8 (by omega)).lt12).mono ?_; rintro e w5 ⟨rfl, ht5, hd5⟩
              obtain ⟨e1, D5, t1, t2, t3, t4⟩ := HINV.out.turn_fuse q8 hq8l p ol
              rw [t1] at hd5 ⊢
              dsimp only at hd5 ⊢
              have HI5 := Lib.hid t2
              have HRC : Hid (∀ i, i < c.s.length → (rcD c.r.length (copyD D5) i).1 = (rcD c.r.length Dk i).1) := Lib.hid (fun i hi => by rw [t3 i hi])
              have HP4 := Lib.hid t4
              clear t1 t2 t3 t4
              have HS5 : Hid (w5.ownsRow wz.heap.size 41 3 (.slice b' c.s.length c') c.s.length xs ∧ OldV wz.heap.size w5 c.r.length Dk c.s.length xs ∧ w5.heap[w.heap.size]? = some (.cells #[.slice ra rn rc, .slice sa c.s.length sc, .slice aa an ac, .slice ua un uc, .int .u64 (c.t : Int), .slice la L.length lc, .int .u8 kd, .int .i64 who, .int .u32 sq, .bool st, .slice ba bn bc, .int .u8 p, .slice oa on oc, .int .i64 nn, .int .i64 at1, .slice b1 b2 b3, .int .u8 fq] 52 (0, 0)) ∧ Below w.heap.size w w5) := Lib.hid
                ⟨owns_touch HS4.out.2.1 ht5 (fun k hk e => by have h1 := owns_base HS4.out.2.1 k hk; have h2 := HZW.out; omega), HS4.out.2.2.1.touch ht5 (fun k hk _ e => by have h2 := HZW.out; omega), ht5.heap HS4.out.2.2.2.1 (HG.out _ (Nat.le_refl _)), HS4.out.2.2.2.2.trans (ht5.below HS4.out.2.2.2.2.size (fun k hk => HG.out k (Nat.le_of_lt hk)))⟩
              clear ht5 HS4
              by_cases he : e1 = 0
              · subst he
                have HPH : Hid ((phD c.s.length (copyD D5)).1 = p) := Lib.hid (by rw [HP4.out, if_pos rfl])
                go_wp2_with fail
                refine (copy_disk' bd bl D5 w5 hd5).mono ?_; rintro e w6 ⟨cd, cl, rfl, hb6, _, _, hd6⟩
                have HS6 : Hid (w6.ownsRow wz.heap.size 41 3 (.slice b' c.s.length c') c.s.length xs ∧ OldV wz.heap.size w6 c.r.length Dk c.s.length xs ∧ w6.heap[w.heap.size]? = some (.cells #[.slice ra rn rc, .slice sa c.s.length sc, .slice aa an ac, .slice ua un uc, .int .u64 (c.t : Int), .slice la L.length lc, .int .u8 kd, .int .i64 who, .int .u32 sq, .bool st, .slice ba bn bc, .int .u8 p, .slice oa on oc, .int .i64 nn, .int .i64 at1, .slice b1 b2 b3, .int .u8 fq] 52 (0, 0)) ∧ Below w.heap.size w w6) := Lib.hid
                  ⟨owns_below HS5.out.1 hb6, HS5.out.2.1.below hb6, below_heap hb6 HS5.out.2.2.1 (lt_of_heap HS5.out.2.2.1), HS5.out.2.2.2.trans (hb6.mono HS5.out.2.2.2.size)⟩
                have HD6 := Lib.hid hd6
                clear hb6 hd6 hd5 HS5
                go_wp2_with fail
                refine (open_any cd cl (copyD D5) w6 HD6.out).mono ?_; rintro e w7 ⟨hoq, hb7⟩
                obtain ⟨bs2, y2, rfl, hs2⟩ : ∃ (bs2 : Nat) (y2 : StA), e = .returned (.tuple #[.pointer (some ⟨bs2, 0, none⟩), .int .i64 0]) ∧ IsStore w7 bs2 cd cl y2 c (copyD D5) := by
                  rcases hoq with ⟨q, h1, _⟩ | ⟨c'', h1, bs2, y2, h2, h3, _⟩
                  · rw [HI5.out.open] at h1; cases h1
                  · rw [HI5.out.open] at h1; cases h1; exact ⟨bs2, y2, h2, h3⟩
                have HT : Hid (TnS w wz c (.cells #[.slice ra rn rc, .slice sa c.s.length sc, .slice aa an ac, .slice ua un uc, .int .u64 (c.t : Int), .slice la L.length lc, .int .u8 kd, .int .i64 who, .int .u32 sq, .bool st, .slice ba bn bc, .int .u8 p, .slice oa on oc, .int .i64 nn, .int .i64 at1, .slice b1 b2 b3, .int .u8 fq] 52 (0, 0)) c.r.length Dk b' c' xs bs2 cd cl y2 (copyD D5) w7) := Lib.hid
                  ⟨hs2, owns_below HS6.out.1 hb7, HS6.out.2.1.below hb7, below_heap hb7 HS6.out.2.2.1 (lt_of_heap HS6.out.2.2.1), HS6.out.2.2.2.trans (hb7.mono HS6.out.2.2.2.size)⟩
                clear hoq hb7 hs2 HS6 HD6
                go_wp2_with fail
                have u11 : w7.cell? ⟨w.heap.size, 11, none⟩ = some (.int .u8 p) := by rw [cell_of_block HT.out.cfg]; rfl
                have z11 : w7.drew.cell? ⟨w.heap.size, 11, none⟩ = some (.int .u8 p) := u11
                have hd0 : Below w7.heap.size w7 w7.drew := (Below.refl _ _).drew
                have HPC := Lib.hid ((phase_pub bs2 cd cl y2 c (copyD D5) w7.drew (HT.out.st2.below hd0)).mono (fun e w' hh => by rw [HPH.out] at hh; exact hh))
                go_region_held3 (fun w' => w'.cell? ⟨w.heap.size, 11, none⟩ = some (.int .u8 p)) (first
                    | with_reducible exact u11
                    | with_reducible exact z11
                    | with_reducible exact q11) (first
                  | (go_at_call 12; ((with_reducible refine HPC.out.mono ?_); rintro e w8 ⟨rfl, hb8⟩; have hb8' : Below w7.heap.size w7 w8 := hd0.trans (hb8.mono hd0.size); have q11 : w8.cell? ⟨w.heap.size, 11, none⟩ = some (.int .u8 p) := cell_later hb8' u11))
                  | fail)
                all_goals
                  have HT8 := Lib.hid (HT.out.below hb8')
                  clear hb8 hb8' q11 u11 z11 hd0 HT HPC
                  have HT := HT8
                  clear HT8
                  go_wp2_with fail
                  obtain ⟨M2, hM2⟩ : ∃ M2, M2 = c.s.length := ⟨_, rfl⟩
                  have HM2' := Lib.hid hM2
                  clear hM2
                  go_loopw [18] (fun i wq => ∃ j : Nat, j ≤ c.s.length ∧ i = .int .i64 j ∧ Hid (TnS w wz c (.cells #[.slice ra rn rc, .slice sa c.s.length sc, .slice aa an ac, .slice ua un uc, .int .u64 (c.t : Int), .slice la L.length lc, .int .u8 kd, .int .i64 who, .int .u32 sq, .bool st, .slice ba bn bc, .int .u8 p, .slice oa on oc, .int .i64 nn, .int .i64 at1, .slice b1 b2 b3, .int .u8 fq] 52 (0, 0)) c.r.length Dk b' c' xs bs2 cd cl y2 (copyD D5) wq)) (fun i _ => M2 - (intOf i).toNat)
                  case atStart => exact ⟨0, Nat.zero_le _, rfl, HT⟩
                  case round =>
                    clear HT
                    obtain ⟨j, hj, rfl, HT⟩ := hrel
                    by_cases hlt3 : j < c.s.length
                    · obtain ⟨gb, rfl⟩ : ∃ gb, b' = some ⟨gb, 0, none⟩ := by
                        rcases HT.out.row.2 with ⟨_, h0⟩ | ⟨g, _, _, h, _⟩
                        · omega
                        · cases h; exact ⟨g, rfl⟩
                      go_wp2_with fail
                      refine (record_ok bs2 cd cl y2 c (copyD D5) j wr HT.out.st2 hlt3 (by omega) hr8).mono ?_; rintro e w8 ⟨r2a, rfl, hb8, hn8⟩
                      have HRJ := Lib.hid (HRC.out j hlt3)
                      obtain ⟨oa1, x0, x1, x2, x3⟩ := HT.out.old.2 j hlt3
                      have hra : wr.rangeAt gb (j * 3) [.int .u32 ((rcD c.r.length Dk j).1.seq : Int), .bool (rcD c.r.length Dk j).1.stands, .slice oa1 (rcD c.r.length Dk j).1.bid.length (rcD c.r.length Dk j).1.bid.length] := fun i v hv => by
                        match i, hv with
                        | 0, hv => cases hv; exact owns_cells3 HT.out.row _ _ x0
                        | 1, hv => cases hv; exact owns_cells3 HT.out.row _ _ x1
                        | 2, hv => cases hv; exact owns_cells3 HT.out.row _ _ x2
                      have hgb : gb < wr.heap.size := by
                        rcases HT.out.row.2 with ⟨h, _⟩ | ⟨g, _, _, h, _, hg, _⟩
                        · cases h
                        · cases h; exact lt_of_heap hg
                      obtain ⟨⟨⟨sq1, st1, l1⟩, ok1⟩, hrr⟩ : ∃ r, rcD c.r.length (copyD D5) j = r := ⟨_, rfl⟩
                      obtain ⟨⟨sq2, st2, l2⟩, hr2⟩ : ∃ r, (rcD c.r.length Dk j).1 = r := ⟨_, rfl⟩
                      rw [hrr] at hn8 HRJ ⊢
                      rw [hr2] at hra x3 HRJ
                      dsimp only at hn8 HRJ hra x3 ⊢
                      have hbA : Below wr.heap.size wr (w8.alloc (.cells #[.int .u32 (sq1 : Int), .bool st1, .slice r2a l1.length l1.length] 41 (0, 0))) := hb8.alloc hb8.size _
                      have HTA := Lib.hid (HT.out.below hbA)
                      have HRA : Hid ((w8.alloc (.cells #[.int .u32 (sq1 : Int), .bool st1, .slice r2a l1.length l1.length] 41 (0, 0))).rangeAt gb (j * 3) [.int .u32 (sq2 : Int), .bool st2, .slice oa1 l2.length l2.length]) := Lib.hid (fun i v hv => (hbA.cell (p := ⟨gb, j * 3 + i, none⟩) hgb).trans (hra i v hv))
                      have HX3 := Lib.hid (x3.isI.below hbA)
                      have HN8 := Lib.hid (hn8.isI.below ((Below.refl _ w8).alloc (Nat.le_refl _) (.cells #[.int .u32 (sq1 : Int), .bool st1, .slice r2a l1.length l1.length] 41 (0, 0))))
                      have HV8 := Lib.hid (heap_new w8 (.cells #[.int .u32 (sq1 : Int), .bool st1, .slice r2a l1.length l1.length] 41 (0, 0)))
                      clear hb8 hn8 hbA hra x0 x1 x2 x3 hrr hr2 HT hgb
                      generalize hw9 : w8.alloc (.cells #[.int .u32 (sq1 : Int), .bool st1, .slice r2a l1.length l1.length] 41 (0, 0)) = w9 at HTA HRA HX3 HN8 HV8
                      have hb9 : ∀ o, Below w9.heap.size w9 (w9.alloc o) := fun o => (Below.refl _ _).alloc (Nat.le_refl _) o
                      have q0 : w9.cell? ⟨gb, j * 3, none⟩ = some (.int .u32 (sq2 : Int)) := HRA.out 0 _ rfl
                      have q1 : w9.cell? ⟨gb, j * 3 + 1, none⟩ = some (.bool st2) := HRA.out 1 _ rfl
                      have q2 : w9.cell? ⟨gb, j * 3 + 2, none⟩ = some (.slice oa1 l2.length l2.length) := HRA.out 2 _ rfl
                      have q3 : w9.cell? ⟨gb, 0 + j * 3, none⟩ = some (.int .u32 (sq2 : Int)) := by rw [Nat.zero_add]; exact HRA.out 0 _ rfl
                      have HEQ : Hid ((⟨sq1, st1, l1⟩ : StR) = ⟨sq2, st2, l2⟩) := Lib.hid HRJ.out
                      obtain ⟨e1q, e2q, e3q⟩ : sq1 = sq2 ∧ st1 = st2 ∧ l1 = l2 := StR.mk.inj HEQ.out
                      subst e1q e2q e3q
                      have HTB := Lib.hid (HTA.out.below (hb9 (.cells #[.int .u32 (sq1 : Int), .bool st1, .slice oa1 l1.length l1.length] 41 (0, 0))))
                      have HXB := Lib.hid (HX3.out.below (hb9 (.cells #[.int .u32 (sq1 : Int), .bool st1, .slice oa1 l1.length l1.length] 41 (0, 0))))
                      have HNB := Lib.hid (HN8.out.below (hb9 (.cells #[.int .u32 (sq1 : Int), .bool st1, .slice oa1 l1.length l1.length] 41 (0, 0))))
                      have vB := below_heap (hb9 (.cells #[.int .u32 (sq1 : Int), .bool st1, .slice oa1 l1.length l1.length] 41 (0, 0))) HV8.out (lt_of_heap HV8.out)
                      have a0 : (w9.alloc (.cells #[.int .u32 (sq1 : Int), .bool st1, .slice oa1 l1.length l1.length] 41 (0, 0))).cell? ⟨w8.heap.size, 0, none⟩ = some (.int .u32 (sq1 : Int)) := by rw [cell_of_block vB]; rfl
                      have a1 : (w9.alloc (.cells #[.int .u32 (sq1 : Int), .bool st1, .slice oa1 l1.length l1.length] 41 (0, 0))).cell? ⟨w8.heap.size, 1, none⟩ = some (.bool st1) := by rw [cell_of_block vB]; rfl
                      have a2 : (w9.alloc (.cells #[.int .u32 (sq1 : Int), .bool st1, .slice oa1 l1.length l1.length] 41 (0, 0))).cell? ⟨w8.heap.size, 2, none⟩ = some (.slice r2a l1.length l1.length) := by rw [cell_of_block vB]; rfl
                      clear HTA HX3 HN8 HV8 vB hb9
                      go_wp2_with fail
                      generalize w9.alloc (.cells #[.int .u32 (sq1 : Int), .bool st1, .slice oa1 l1.length l1.length] 41 (0, 0)) = wB at HTB HXB HNB ⊢
                      refine (sameR_any sq1 sq1 st1 st1 r2a oa1 l1.length l1.length l1.length l1.length l1 l1 wB HNB.out HXB.out).mono ?_; rintro e wC ⟨rfl, hbC⟩
                      rw [show decide ((⟨sq1, st1, l1⟩ : StR) = ⟨sq1, st1, l1⟩) = true from decide_eq_true rfl]
                      have HTC := Lib.hid (HTB.out.below hbC)
                      clear hbC HTB HXB HNB
                      go_wp2_with fail
                      go_roundw
                      case rel => exact ⟨j + 1, by omega, by go_num, HTC⟩
                      case measure => have := HM2'.out; simp [intOf]; omega
                    · have hjj : j = c.s.length := by omega
                      subst hjj
                      go_wp2_with fail
                      refine (HLI.out wr HT.out.bel).mono ?_; rintro e wF ⟨rfl, hbF⟩
                      go_wp2_with fail
                      go_ret
                      exact ⟨rfl, hbF⟩
              · have he1 : (e1 == 0) = false := by rw [beq_eq_false_iff_ne]; exact he
                have HPH : Hid ((phD c.s.length (copyD D5)).1 = (phD c.s.length Dk).1) := Lib.hid (by rw [HP4.out, if_neg he])
                go_wp2_with fail
                refine (copy_disk' bd bl D5 w5 hd5).mono ?_; rintro e w6 ⟨cd, cl, rfl, hb6, _, _, hd6⟩
                have HS6 : Hid (w6.ownsRow wz.heap.size 41 3 (.slice b' c.s.length c') c.s.length xs ∧ OldV wz.heap.size w6 c.r.length Dk c.s.length xs ∧ w6.heap[w.heap.size]? = some (.cells #[.slice ra rn rc, .slice sa c.s.length sc, .slice aa an ac, .slice ua un uc, .int .u64 (c.t : Int), .slice la L.length lc, .int .u8 kd, .int .i64 who, .int .u32 sq, .bool st, .slice ba bn bc, .int .u8 p, .slice oa on oc, .int .i64 nn, .int .i64 at1, .slice b1 b2 b3, .int .u8 fq] 52 (0, 0)) ∧ Below w.heap.size w w6) := Lib.hid
                  ⟨owns_below HS5.out.1 hb6, HS5.out.2.1.below hb6, below_heap hb6 HS5.out.2.2.1 (lt_of_heap HS5.out.2.2.1), HS5.out.2.2.2.trans (hb6.mono HS5.out.2.2.2.size)⟩
                have HD6 := Lib.hid hd6
                clear hb6 hd6 hd5 HS5
                go_wp2_with fail
                refine (open_any cd cl (copyD D5) w6 HD6.out).mono ?_; rintro e w7 ⟨hoq, hb7⟩
                obtain ⟨bs2, y2, rfl, hs2⟩ : ∃ (bs2 : Nat) (y2 : StA), e = .returned (.tuple #[.pointer (some ⟨bs2, 0, none⟩), .int .i64 0]) ∧ IsStore w7 bs2 cd cl y2 c (copyD D5) := by
                  rcases hoq with ⟨q, h1, _⟩ | ⟨c'', h1, bs2, y2, h2, h3, _⟩
                  · rw [HI5.out.open] at h1; cases h1
                  · rw [HI5.out.open] at h1; cases h1; exact ⟨bs2, y2, h2, h3⟩
                have HT : Hid (TnS w wz c (.cells #[.slice ra rn rc, .slice sa c.s.length sc, .slice aa an ac, .slice ua un uc, .int .u64 (c.t : Int), .slice la L.length lc, .int .u8 kd, .int .i64 who, .int .u32 sq, .bool st, .slice ba bn bc, .int .u8 p, .slice oa on oc, .int .i64 nn, .int .i64 at1, .slice b1 b2 b3, .int .u8 fq] 52 (0, 0)) c.r.length Dk b' c' xs bs2 cd cl y2 (copyD D5) w7) := Lib.hid
                  ⟨hs2, owns_below HS6.out.1 hb7, HS6.out.2.1.below hb7, below_heap hb7 HS6.out.2.2.1 (lt_of_heap HS6.out.2.2.1), HS6.out.2.2.2.trans (hb7.mono HS6.out.2.2.2.size)⟩
                clear hoq hb7 hs2 HS6 HD6
                go_wp2_with fail
                refine (phase_pub bs2 cd cl y2 c (copyD D5) w7 HT.out.st2).mono ?_; rintro e w8 ⟨rfl, hb8⟩
                rw [HPH.out]
                have HT8 := Lib.hid (HT.out.below hb8)
                clear hb8 HT
                have HT := HT8
                clear HT8
                go_wp2_with fail
                obtain ⟨M2, hM2⟩ : ∃ M2, M2 = c.s.length := ⟨_, rfl⟩
                have HM2' := Lib.hid hM2
                clear hM2
                go_loopw [18] (fun i wq => ∃ j : Nat, j ≤ c.s.length ∧ i = .int .i64 j ∧ Hid (TnS w wz c (.cells #[.slice ra rn rc, .slice sa c.s.length sc, .slice aa an ac, .slice ua un uc, .int .u64 (c.t : Int), .slice la L.length lc, .int .u8 kd, .int .i64 who, .int .u32 sq, .bool st, .slice ba bn bc, .int .u8 p, .slice oa on oc, .int .i64 nn, .int .i64 at1, .slice b1 b2 b3, .int .u8 fq] 52 (0, 0)) c.r.length Dk b' c' xs bs2 cd cl y2 (copyD D5) wq)) (fun i _ => M2 - (intOf i).toNat)
                case atStart => exact ⟨0, Nat.zero_le _, rfl, HT⟩
                case round =>
                  clear HT
                  obtain ⟨j, hj, rfl, HT⟩ := hrel
                  by_cases hlt3 : j < c.s.length
                  · obtain ⟨gb, rfl⟩ : ∃ gb, b' = some ⟨gb, 0, none⟩ := by
                      rcases HT.out.row.2 with ⟨_, h0⟩ | ⟨g, _, _, h, _⟩
                      · omega
                      · cases h; exact ⟨g, rfl⟩
                    go_wp2_with fail
                    refine (record_ok bs2 cd cl y2 c (copyD D5) j wr HT.out.st2 hlt3 (by omega) hr8).mono ?_; rintro e w8 ⟨r2a, rfl, hb8, hn8⟩
                    have HRJ := Lib.hid (HRC.out j hlt3)
                    obtain ⟨oa1, x0, x1, x2, x3⟩ := HT.out.old.2 j hlt3
                    have hra : wr.rangeAt gb (j * 3) [.int .u32 ((rcD c.r.length Dk j).1.seq : Int), .bool (rcD c.r.length Dk j).1.stands, .slice oa1 (rcD c.r.length Dk j).1.bid.length (rcD c.r.length Dk j).1.bid.length] := fun i v hv => by
                      match i, hv with
                      | 0, hv => cases hv; exact owns_cells3 HT.out.row _ _ x0
                      | 1, hv => cases hv; exact owns_cells3 HT.out.row _ _ x1
                      | 2, hv => cases hv; exact owns_cells3 HT.out.row _ _ x2
                    have hgb : gb < wr.heap.size := by
                      rcases HT.out.row.2 with ⟨h, _⟩ | ⟨g, _, _, h, _, hg, _⟩
                      · cases h
                      · cases h; exact lt_of_heap hg
                    obtain ⟨⟨⟨sq1, st1, l1⟩, ok1⟩, hrr⟩ : ∃ r, rcD c.r.length (copyD D5) j = r := ⟨_, rfl⟩
                    obtain ⟨⟨sq2, st2, l2⟩, hr2⟩ : ∃ r, (rcD c.r.length Dk j).1 = r := ⟨_, rfl⟩
                    rw [hrr] at hn8 HRJ ⊢
                    rw [hr2] at hra x3 HRJ
                    dsimp only at hn8 HRJ hra x3 ⊢
                    have hbA : Below wr.heap.size wr (w8.alloc (.cells #[.int .u32 (sq1 : Int), .bool st1, .slice r2a l1.length l1.length] 41 (0, 0))) := hb8.alloc hb8.size _
                    have HTA := Lib.hid (HT.out.below hbA)
                    have HRA : Hid ((w8.alloc (.cells #[.int .u32 (sq1 : Int), .bool st1, .slice r2a l1.length l1.length] 41 (0, 0))).rangeAt gb (j * 3) [.int .u32 (sq2 : Int), .bool st2, .slice oa1 l2.length l2.length]) := Lib.hid (fun i v hv => (hbA.cell (p := ⟨gb, j * 3 + i, none⟩) hgb).trans (hra i v hv))
                    have HX3 := Lib.hid (x3.isI.below hbA)
                    have HN8 := Lib.hid (hn8.isI.below ((Below.refl _ w8).alloc (Nat.le_refl _) (.cells #[.int .u32 (sq1 : Int), .bool st1, .slice r2a l1.length l1.length] 41 (0, 0))))
                    have HV8 := Lib.hid (heap_new w8 (.cells #[.int .u32 (sq1 : Int), .bool st1, .slice r2a l1.length l1.length] 41 (0, 0)))
                    clear hb8 hn8 hbA hra x0 x1 x2 x3 hrr hr2 HT hgb
                    generalize hw9 : w8.alloc (.cells #[.int .u32 (sq1 : Int), .bool st1, .slice r2a l1.length l1.length] 41 (0, 0)) = w9 at HTA HRA HX3 HN8 HV8
                    have hb9 : ∀ o, Below w9.heap.size w9 (w9.alloc o) := fun o => (Below.refl _ _).alloc (Nat.le_refl _) o
                    have q0 : w9.cell? ⟨gb, j * 3, none⟩ = some (.int .u32 (sq2 : Int)) := HRA.out 0 _ rfl
                    have q1 : w9.cell? ⟨gb, j * 3 + 1, none⟩ = some (.bool st2) := HRA.out 1 _ rfl
                    have q2 : w9.cell? ⟨gb, j * 3 + 2, none⟩ = some (.slice oa1 l2.length l2.length) := HRA.out 2 _ rfl
                    have q3 : w9.cell? ⟨gb, 0 + j * 3, none⟩ = some (.int .u32 (sq2 : Int)) := by rw [Nat.zero_add]; exact HRA.out 0 _ rfl
                    have HEQ : Hid ((⟨sq1, st1, l1⟩ : StR) = ⟨sq2, st2, l2⟩) := Lib.hid HRJ.out
                    obtain ⟨e1q, e2q, e3q⟩ : sq1 = sq2 ∧ st1 = st2 ∧ l1 = l2 := StR.mk.inj HEQ.out
                    subst e1q e2q e3q
                    have HTB := Lib.hid (HTA.out.below (hb9 (.cells #[.int .u32 (sq1 : Int), .bool st1, .slice oa1 l1.length l1.length] 41 (0, 0))))
                    have HXB := Lib.hid (HX3.out.below (hb9 (.cells #[.int .u32 (sq1 : Int), .bool st1, .slice oa1 l1.length l1.length] 41 (0, 0))))
                    have HNB := Lib.hid (HN8.out.below (hb9 (.cells #[.int .u32 (sq1 : Int), .bool st1, .slice oa1 l1.length l1.length] 41 (0, 0))))
                    have vB := below_heap (hb9 (.cells #[.int .u32 (sq1 : Int), .bool st1, .slice oa1 l1.length l1.length] 41 (0, 0))) HV8.out (lt_of_heap HV8.out)
                    have a0 : (w9.alloc (.cells #[.int .u32 (sq1 : Int), .bool st1, .slice oa1 l1.length l1.length] 41 (0, 0))).cell? ⟨w8.heap.size, 0, none⟩ = some (.int .u32 (sq1 : Int)) := by rw [cell_of_block vB]; rfl
                    have a1 : (w9.alloc (.cells #[.int .u32 (sq1 : Int), .bool st1, .slice oa1 l1.length l1.length] 41 (0, 0))).cell? ⟨w8.heap.size, 1, none⟩ = some (.bool st1) := by rw [cell_of_block vB]; rfl
                    have a2 : (w9.alloc (.cells #[.int .u32 (sq1 : Int), .bool st1, .slice oa1 l1.length l1.length] 41 (0, 0))).cell? ⟨w8.heap.size, 2, none⟩ = some (.slice r2a l1.length l1.length) := by rw [cell_of_block vB]; rfl
                    clear HTA HX3 HN8 HV8 vB hb9
                    go_wp2_with fail
                    generalize w9.alloc (.cells #[.int .u32 (sq1 : Int), .bool st1, .slice oa1 l1.length l1.length] 41 (0, 0)) = wB at HTB HXB HNB ⊢
                    refine (sameR_any sq1 sq1 st1 st1 r2a oa1 l1.length l1.length l1.length l1.length l1 l1 wB HNB.out HXB.out).mono ?_; rintro e wC ⟨rfl, hbC⟩
                    rw [show decide ((⟨sq1, st1, l1⟩ : StR) = ⟨sq1, st1, l1⟩) = true from decide_eq_true rfl]
                    have HTC := Lib.hid (HTB.out.below hbC)
                    clear hbC HTB HXB HNB
                    go_wp2_with fail
                    go_roundw
                    case rel => exact ⟨j + 1, by omega, by go_num, HTC⟩
                    case measure => have := HM2'.out; simp [intOf]; omega
                  · have hjj : j = c.s.length := by omega
                    subst hjj
                    go_wp2_with fail
                    refine (HLI.out wr HT.out.bel).mono ?_; rintro e wF ⟨rfl, hbF⟩
                    go_wp2_with fail
                    go_ret
                    exact ⟨rfl, hbF⟩

end Go.Proofs.YtggjhbpggddjmaaGreat
