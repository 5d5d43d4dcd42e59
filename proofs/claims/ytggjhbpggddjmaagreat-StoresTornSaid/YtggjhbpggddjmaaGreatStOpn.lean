/- The package stores: Open, of any disk; conditions: those typed. -/
import Derived.Test.YtggjhbpggddjmaaGreatGStTw
namespace Go.Proofs.YtggjhbpggddjmaaGreat
open Go.RowKit
set_option linter.unusedVariables false
set_option linter.unusedSimpArgs false

/-- Are the records of the first some bidders such? -/
def allR (items : Nat) (D : Dsk) (n : Nat) : Bool := (List.range n).all fun i => (rcD items D i).2
theorem allR_zero (items : Nat) (D : Dsk) : allR items D 0 = true := rfl
theorem allR_succ (items : Nat) (D : Dsk) (n : Nat) : allR items D (n + 1) = (allR items D n && (rcD items D n).2) := by
  unfold allR
  rw [List.range_succ, List.all_append]
  simp
/-- What a disk is opened as. -/
def openC (D : Dsk) : Except Int StC :=
  if (D.get ((0 : Nat) : Int)).1 = 0 then .error 7 else match decC (D.get ((0 : Nat) : Int)).2.1 with
  | none => .error 4
  | some c => if mayB c = false then .error 4 else if roomC D c.s.length = false then .error 3 else if ((phD c.s.length D).2.2 && allR c.r.length D c.s.length) = true then .ok c else .error 4
def OpenQ (w : World) (bd bl : Nat) (D : Dsk) (e : Ending) (w' : World) : Prop :=
  (∃ k, openC D = .error k ∧ e = .returned (.tuple #[.pointer none, .int .i64 k])) ∨
  (∃ c, openC D = .ok c ∧ ∃ (bs : Nat) (y : StA), e = .returned (.tuple #[.pointer (some ⟨bs, 0, none⟩), .int .i64 0]) ∧ IsStore w' bs bd bl y c D ∧ w.heap.size ≤ bs ∧ IsCf w' (fun k => w.heap.size ≤ k) y c)
theorem StInv.open {c : StC} {D : Dsk} {j : Nat} (h : StInv c D j) : openC D = .ok c := by
  have h8 := h.n8
  have hl := h.len
  have g := get_is (D := D) 0 (by omega)
  unfold openC
  rw [g, h.cfg]
  dsimp only
  rw [if_neg (by decide), decC_enc c h.may]
  dsimp only
  have hm : mayB c = true := (mayB_iff c).2 h.may
  have hr : roomC D c.s.length = true := decide_eq_true hl
  have ha : allR c.r.length D c.s.length = true := by
    unfold allR
    rw [List.all_eq_true]
    exact fun i hi => h.rc i (List.mem_range.1 hi)
  rw [if_neg (by rw [hm]; decide), if_neg (by rw [hr]; decide), if_pos (by rw [h.ph, ha]; rfl)]

/-- Between two rounds. -/
structure OpJ (w : World) (bs bd bl b1 : Nat) (y : StA) (c : StC) (D : Dsk) (k : Nat) (q : Bool) (W : World) : Prop where
  qe : q = ((phD c.s.length D).2.2 && allR c.r.length D k)
  bel : Below w.heap.size w W
  st : IsStore W bs bd bl y c D
  cf : IsCf W (fun k => w.heap.size ≤ k) y c

set_option maxRecDepth 100000 in
set_option maxHeartbeats 8000000 in
theorem open_any (bd bl : Nat) (D : Dsk) (w : World) (h : IsDisk w bd bl D) :
    Calls Tryz.prog 20 #[.pointer (some ⟨bd, 0, none⟩)] w fun e w' => OpenQ w bd bl D e w' ∧ Below w.heap.size w w' := by
  have HD := Lib.hid h
  have d0 : ((D.secs.length : Int) == 0) = false := by have := h.pos; rw [beq_eq_false_iff_ne]; omega
  clear h
  go_enter Tryz.func20, Tryz.ntmps20
  go_wp2_with fail
  refine (len_disk bd bl D w HD.out).mono ?_; rintro e w1 ⟨rfl, rfl⟩
  obtain ⟨N, hN⟩ : ∃ N, D.secs.length = N := ⟨_, rfl⟩
  rw [hN] at d0 ⊢
  clear hN
  go_wp2_with fail
  refine (stconfig_any w).mono ?_; rintro e w3 ⟨rfl, rfl⟩
  go_wp2_with fail
  refine (get_i bd bl D 0 _ w (by first | rfl | simp) HD.out).mono ?_; rintro e w3 ⟨a3, rfl, hb3, hi3, _⟩
  obtain ⟨⟨n0, b0, e0⟩, hg⟩ : ∃ g, D.get ((0 : Nat) : Int) = g := ⟨_, rfl⟩
  rw [hg] at hi3 ⊢
  dsimp only at hi3 ⊢
  have HG := Lib.hid hg
  have HB3 := Lib.hid hb3
  have HI3 := Lib.hid hi3
  have HD3 := Lib.hid (HD.out.touch (Touch.of_below (S := fun _ => False) hb3) id id)
  clear hb3 hi3 hg
  by_cases hn0 : n0 = 0
  · subst hn0
    go_wp2_with fail
    refine bodyPost_ret (results_tmp2 rfl _ _ _) rfl ?_
    exact ⟨.inl ⟨7, by unfold openC; rw [HG.out, if_pos rfl], rfl⟩, HB3.out⟩
  have dn : ((n0 : Int) == 0) = false := by rw [beq_eq_false_iff_ne]; omega
  have dn2 : (n0 == 0) = false := by rw [beq_eq_false_iff_ne]; exact hn0
  have HN0 := Lib.hid hn0
  clear hn0
  go_wp2_with fail
  refine (get_cfg a3 b0.length b0.length b0 w3 HI3.out).mono ?_; rintro e w4 ⟨y, t, rfl, hb4, hgot⟩
  have HB4 := Lib.hid (HB3.out.trans (hb4.mono HB3.out.size))
  have HD4 := Lib.hid (HD3.out.touch (Touch.of_below (S := fun _ => False) hb4) id id)
  have HGOT := Lib.hid hgot
  have HS34 : Hid (w.heap.size ≤ w3.heap.size) := Lib.hid HB3.out.size
  clear hb4 hgot
  obtain ⟨ra, rn, rc, sa, sn, sc, sv, aa, an, ac, ua, un, uc⟩ := y
  cases hok : okC b0 with
  | false =>
    have HE : Hid (openC D = .error 4) := Lib.hid (by
      unfold openC
      rw [HG.out]
      dsimp only
      rw [if_neg HN0.out]
      unfold okC at hok
      cases hd : decC b0 with
      | none => rfl
      | some c =>
        rw [hd] at hok
        dsimp only at hok ⊢
        rw [if_pos hok])
    clear hok
    unfold StA.cells
    dsimp only
    go_wp2_with fail
    refine bodyPost_ret (results_tmp2 rfl _ _ _) rfl ?_
    refine ⟨.inl ⟨4, HE.out, rfl⟩, ?_⟩
    first | exact HB4.out | exact HB4.out.alloc HB4.out.size _
  | true =>
    obtain ⟨c, hdec, hmay⟩ : ∃ c, decC b0 = some c ∧ mayB c = true := by
      unfold okC at hok
      cases hd : decC b0 with
      | none => rw [hd] at hok; cases hok
      | some c => rw [hd] at hok; exact ⟨c, rfl, hok⟩
    obtain ⟨rfl, hcf⟩ := HGOT.out c hdec
    have HE : Hid (openC D = if roomC D c.s.length = false then .error 3 else if ((phD c.s.length D).2.2 && allR c.r.length D c.s.length) = true then .ok c else .error 4) := Lib.hid (by
      unfold openC
      rw [HG.out]
      dsimp only
      rw [if_neg HN0.out, hdec]
      dsimp only
      rw [if_neg (by rw [hmay]; decide)])
    have HM := Lib.hid ((mayB_iff c).1 hmay)
    obtain rfl : sn = c.s.length := hcf.s.1
    have HCF := Lib.hid hcf
    clear hdec hmay hok hcf HGOT
    unfold StA.cells
    dsimp only
    obtain ⟨hbA, m0, m1⟩ := alloc2_facts w4 (.cells #[.slice ra rn rc, .slice sa c.s.length sc, .slice aa an ac, .slice ua un uc, .int .u64 (c.t : Int)] 27 (0, 0)) (.cells #[.slice ra rn rc, .slice sa c.s.length sc, .slice aa an ac, .slice ua un uc, .int .u64 (c.t : Int), .pointer (some ⟨bd, 0, none⟩)] 77 (0, 0))
    have HV := Lib.hid (heap_new w4 (.cells #[.slice ra rn rc, .slice sa c.s.length sc, .slice aa an ac, .slice ua un uc, .int .u64 (c.t : Int)] 27 (0, 0)))
    go_wp2_with (first
      | (refine wpList_load_mid rfl 27 (.tmp 7) rfl w4.heap.size 0 rfl [.slice ra rn rc, .slice sa c.s.length sc, .slice aa an ac, .slice ua un uc, .int .u64 (c.t : Int)] _ (rangeAt_row HV.out) Tryz.underlying27 rfl info_cfg ?_)
      | fail)
    generalize ((w4.alloc (.cells #[.slice ra rn rc, .slice sa c.s.length sc, .slice aa an ac, .slice ua un uc, .int .u64 (c.t : Int)] 27 (0, 0))).alloc (.cells #[.slice ra rn rc, .slice sa c.s.length sc, .slice aa an ac, .slice ua un uc, .int .u64 (c.t : Int), .pointer (some ⟨bd, 0, none⟩)] 77 (0, 0))) = W at hbA m0 m1 ⊢
    have hsz : w.heap.size ≤ w4.heap.size := HB4.out.size
    have hlt := HD4.out.lt
    have HLT : Hid (w.heap.size ≤ w4.heap.size) := Lib.hid hsz
    have HDL : Hid (bd < w4.heap.size ∧ bl < w4.heap.size) := Lib.hid hlt
    have hdw : bd < w.heap.size ∧ bl < w.heap.size := HD.out.lt
    have HST : Hid (IsStore W (w4.heap.size + 1) bd bl ⟨ra, rn, rc, sa, c.s.length, sc, sv, aa, an, ac, ua, un, uc⟩ c D) := Lib.hid
      ⟨m1, HD4.out.touch (Touch.of_below (S := fun _ => False) hbA) id id, (HCF.out.below hbA).imp (fun k hk => by have := HS34.out; omega), by omega⟩
    have HB5 := Lib.hid (HB4.out.trans (hbA.mono HB4.out.size))
    have HCF5 := Lib.hid ((HCF.out.below hbA).imp (Q := fun k => w.heap.size ≤ k) (fun k hk => Nat.le_trans HS34.out hk))
    have HM0 := Lib.hid m0
    have HR := Lib.hid (stcap_any bd bl D c.s.length W HST.out.disk (by have := HM.out.s; omega))
    clear hsz hlt hdw m0 m1 hbA HB4 HB3 HI3 HD3 HD4 HCF HV HG
    refine HR.out.mono ?_; rintro e w5 ⟨rfl, hb5⟩
    have HB6 := Lib.hid (HB5.out.trans (hb5.mono HB5.out.size))
    have HST6 := Lib.hid (HST.out.below hb5)
    have HCF6 := Lib.hid (HCF5.out.below hb5)
    have HM6 := Lib.hid (below_heap hb5 HM0.out (lt_of_heap HM0.out))
    clear hb5 HR HB5 HST HCF5 HM0
    cases hroom : roomC D c.s.length with
    | false =>
      have HE2 : Hid (openC D = .error 3) := Lib.hid (by rw [HE.out, if_pos hroom])
      clear hroom
      go_wp2_with fail
      refine bodyPost_ret (results_tmp2 rfl _ _ _) rfl ?_
      exact ⟨.inl ⟨3, HE2.out, rfl⟩, HB6.out⟩
    | true =>
    have HE2 : Hid (openC D = if ((phD c.s.length D).2.2 && allR c.r.length D c.s.length) = true then .ok c else .error 4) := Lib.hid (by rw [HE.out, if_neg (by rw [hroom]; decide)])
    clear hroom HE
    go_wp2_with fail
    refine (phase_any (w4.heap.size + 1) bd bl _ c D w5 HST6.out).mono ?_; rintro e w6 ⟨a6, rfl, hb6, _⟩
    have m6 := below_heap hb6 HM6.out (lt_of_heap HM6.out)
    have HBX : Hid (w4.heap.size < w5.heap.size) := Lib.hid (lt_of_heap HM6.out)
    have HJ : Hid (OpJ w (w4.heap.size + 1) bd bl w4.heap.size ⟨ra, rn, rc, sa, c.s.length, sc, sv, aa, an, ac, ua, un, uc⟩ c D 0 (phD c.s.length D).2.2 w6) := Lib.hid
      ⟨by rw [allR_zero, Bool.and_true], HB6.out.trans (hb6.mono HB6.out.size), HST6.out.below hb6, HCF6.out.below hb6⟩
    have f1 : w6.cell? ⟨w4.heap.size, 1, none⟩ = some (.slice sa c.s.length sc) := by rw [cell_of_block m6]; rfl
    clear hb6 m6 HB6 HST6 HCF6 HM6 HBX
    obtain ⟨⟨ph, pl, ok0⟩, hph⟩ : ∃ p, phD c.s.length D = p := ⟨_, rfl⟩
    rw [hph] at HJ ⊢
    dsimp only at HJ ⊢
    have HPH := Lib.hid hph
    clear hph
    go_wp2_with fail
    obtain ⟨NS, hNS⟩ : ∃ NS, NS = c.s.length := ⟨_, rfl⟩
    have HNS := Lib.hid hNS
    have h8 : c.s.length ≤ 8 := HM.out.s.2
    have hr8 : c.r.length ≤ 1000000 := by have := HM.out.r.2.1; omega
    clear hNS
    go_loopw [52, 8] (fun i s wr => ∃ k : Nat, ∃ q : Bool, k ≤ c.s.length ∧ i = .int .i64 k ∧ s = .bool q ∧ Hid (OpJ w (w4.heap.size + 1) bd bl w4.heap.size ⟨ra, rn, rc, sa, c.s.length, sc, sv, aa, an, ac, ua, un, uc⟩ c D k q wr)) (fun i _ _ => NS - (intOf i).toNat)
    case atStart => exact ⟨0, ok0, Nat.zero_le _, rfl, rfl, HJ⟩
    case round =>
      clear HJ
      obtain ⟨k, q, hk, rfl, rfl, HJ⟩ := hrel
      by_cases hlt : k < c.s.length
      · have HKL := Lib.hid hlt
        go_wp2_with fail
        refine (record_any (w4.heap.size + 1) bd bl _ c D k wr HJ.out.st (by omega) hr8).mono ?_; rintro e w7 ⟨a7, rfl, hb7, _⟩
        obtain ⟨⟨⟨sq, st, l⟩, okr⟩, hrr⟩ : ∃ r, rcD c.r.length D k = r := ⟨_, rfl⟩
        rw [hrr]
        dsimp only
        have hba : Below wr.heap.size wr (w7.alloc (.cells #[.int .u32 (sq : Int), .bool st, .slice a7 l.length l.length] 41 (0, 0))) := hb7.alloc hb7.size _
        have HJ2 : Hid (OpJ w (w4.heap.size + 1) bd bl w4.heap.size ⟨ra, rn, rc, sa, c.s.length, sc, sv, aa, an, ac, ua, un, uc⟩ c D (k + 1) (q && okr) (w7.alloc (.cells #[.int .u32 (sq : Int), .bool st, .slice a7 l.length l.length] 41 (0, 0)))) := Lib.hid
          ⟨by rw [allR_succ, HJ.out.qe, hrr, Bool.and_assoc], HJ.out.bel.trans (hba.mono HJ.out.bel.size), HJ.out.st.below hba, HJ.out.cf.below hba⟩
        clear hb7 hba hrr HJ f1
        cases q with
        | true =>
          go_wp2_with fail
          go_roundw
          case rel => exact ⟨k + 1, _, by omega, by go_num, rfl, HJ2⟩
          case measure => have := HNS.out; simp [intOf]; omega
        | false =>
          go_wp2_with fail
          go_roundw
          case rel => exact ⟨k + 1, false, by omega, by go_num, rfl, HJ2⟩
          case measure => have := HNS.out; simp [intOf]; omega
      · have hkk : k = c.s.length := by omega
        subst hkk
        have HQ := Lib.hid HJ.out.qe
        cases q with
        | true =>
          go_wp2_with fail
          refine bodyPost_ret (results_tmp2 rfl _ _ _) rfl ?_
          exact ⟨.inr ⟨c, by rw [HE2.out, if_pos HQ.out.symm], w4.heap.size + 1, _, rfl, HJ.out.st, by have := HLT.out; omega, HJ.out.cf⟩, HJ.out.bel⟩
        | false =>
          go_wp2_with fail
          refine bodyPost_ret (results_tmp2 rfl _ _ _) rfl ?_
          exact ⟨.inl ⟨4, by rw [HE2.out, if_neg (by rw [← HQ.out]; decide)], rfl⟩, HJ.out.bel⟩

end Go.Proofs.YtggjhbpggddjmaaGreat
