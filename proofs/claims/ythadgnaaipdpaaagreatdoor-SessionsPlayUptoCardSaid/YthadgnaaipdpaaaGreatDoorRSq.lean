/- The document's sessions (salesroomref23): Who, and who is a bidder; conditions: those typed. -/
import Derived.Test.YthadgnaaipdpaaaGreatDoorRSs
namespace Go.Proofs.YthadgnaaipdpaaaGreatDoor
open Go.RowKit
set_option linter.unusedVariables false
set_option linter.unusedSimpArgs false
set_option maxRecDepth 100000

theorem of_cases (L : List One) (k : UInt8) : (∃ i, ∃ hi : i < L.length, ofI L k = (i : Int) ∧ L[i].who = k) ∨ (ofI L k = -1 ∧ ∀ j (hj : j < L.length), L[j].who ≠ k) := by
  unfold ofI
  by_cases h : ofN L k < L.length
  · refine .inl ⟨ofN L k, h, if_pos h, ?_⟩
    have := List.findIdx_getElem (p := fun x : One => x.who == k) (xs := L) (w := h)
    exact eq_of_beq this
  · refine .inr ⟨if_neg h, fun j hj e => h ?_⟩
    unfold ofN
    exact List.findIdx_lt_length_of_exists ⟨L[j], List.getElem_mem hj, by simpa using e⟩

/-- What the program's table has, the document's has. -/
structure Cor (T : Tbl) (L : List One) (n : Nat) : Prop where
  n1 : 1 ≤ n
  n8 : n ≤ 8
  len : L.length = n + 2
  whos : ∀ i (hi : i < L.length), L[i].who.toNat = if i < n then i + 1 else if i = n then 0 else 255
  sec : ∀ i (hi : i < L.length), T.secrets L[i].who = some L[i].sec
  tok : ∀ i (hi : i < L.length), T.tokens L[i].who = if L[i].in_ = true then some L[i].tok else none
  kept : ∀ i (hi : i < L.length), T.kept L[i].who = if L[i].kept = true then some (L[i].seq, L[i].rep) else none
  no : ∀ k, (∀ i (hi : i < L.length), L[i].who ≠ k) → T.secrets k = none ∧ T.tokens k = none ∧ T.kept k = none
  short : ∀ i (hi : i < L.length), L[i].rep.length ≤ 1000000
theorem Cor.reps {T : Tbl} {L : List One} {n : Nat} (h : Cor T L n) : ∀ x ∈ L, x.rep.length ≤ 1000000 := fun x hx => by
  obtain ⟨i, hi, rfl⟩ := List.getElem_of_mem hx
  exact h.short i hi
theorem Cor.tshort {T : Tbl} {L : List One} {n : Nat} (h : Cor T L n) (k : UInt8) (s : UInt32) (r : List UInt8) (e : T.kept k = some (s, r)) : r.length ≤ 1000000 := by
  rcases Classical.em (∀ i (hi : i < L.length), L[i].who ≠ k) with h0 | h0
  · rw [(h.no k h0).2.2] at e; cases e
  · obtain ⟨i, hi⟩ := Classical.not_forall.1 h0
    obtain ⟨hi, hw⟩ := Classical.not_forall.1 hi
    have hw := Classical.not_not.1 hw
    have hk := h.kept i hi
    rw [hw, e] at hk
    split at hk
    · cases hk; exact h.short i hi
    · cases hk
theorem Cor.inj {T : Tbl} {L : List One} {n : Nat} (h : Cor T L n) {i j : Nat} (hi : i < L.length) (hj : j < L.length) (e : L[i].who = L[j].who) : i = j := by
  have h1 := h.whos i hi
  have h2 := h.whos j hj
  rw [e] at h1
  have := h.len
  have := h.n8
  rw [h1] at h2
  split at h2 <;> split at h2 <;> (try split at h2) <;> (try split at h2) <;> omega
theorem Cor.who_at {T : Tbl} {L : List One} {n : Nat} (h : Cor T L n) {k : UInt8} (h1 : 1 ≤ k.toNat) (h2 : k.toNat ≤ n) : ∃ hi : k.toNat - 1 < L.length, L[k.toNat - 1].who = k := by
  have hl := h.len
  refine ⟨by omega, UInt8.toNat_inj.1 ?_⟩
  rw [h.whos _ (by omega), if_pos (by omega)]
  omega
theorem Cor.bid {T : Tbl} {L : List One} {n : Nat} (h : Cor T L n) (k : UInt8) : T.bidder k = decide (1 ≤ k.toNat ∧ k.toNat ≤ n) := by
  have hn8 := h.n8
  have hl := h.len
  unfold Tbl.bidder
  by_cases hk : 1 ≤ k.toNat ∧ k.toNat ≤ n
  · obtain ⟨hi, e⟩ := h.who_at hk.1 hk.2
    have := h.sec _ hi
    rw [e] at this
    rw [this, decide_eq_true hk]
    simp
    omega
  · rw [decide_eq_false hk]
    by_cases h0 : k.toNat = 0
    · simp [h0]
    · by_cases h255 : k.toNat = 255
      · simp [h255]
      · have hno : T.secrets k = none := (h.no k (fun i hi e => by
          have := h.whos i hi
          rw [e] at this
          split at this
          · omega
          · split at this <;> omega)).1
        simp [hno]
theorem Cor.ofB {T : Tbl} {L : List One} {n : Nat} (h : Cor T L n) {k : UInt8} (hk : T.bidder k = true) : ∃ i, ∃ hi : i < L.length, ofI L k = (i : Int) ∧ L[i].who = k := by
  rw [h.bid] at hk
  have hk := of_decide_eq_true hk
  obtain ⟨hi, e⟩ := h.who_at hk.1 hk.2
  rcases of_cases L k with h1 | ⟨_, h2⟩
  · exact h1
  · exact absurd e (h2 _ hi)

theorem rbidder_t (B rt : Nat) (ro : Option Addr) (rc : Nat) (L : List One) (T : Tbl) (n : Nat) (k : UInt8) (w : World) (h : IsRT w B rt ro rc L) (hc : Cor T L n) :
    Calls Tryz.prog 37 #[.pointer (some ⟨rt, 0, none⟩), .int .u8 k.toNat] w fun e w' => e = .returned (.bool (T.bidder k)) ∧ w = w' := by
  have f0 := h.field
  have hfew := h.few
  have hl := hc.len
  have hn8 := hc.n8
  rw [hc.bid]
  obtain ⟨kk, hkk⟩ : ∃ kk, kk = k.toNat := ⟨_, rfl⟩
  rw [← hkk]
  rw [hl] at f0 hfew
  have hk256 : kk < 256 := by have := k.toNat_lt; omega
  clear h hc hkk hl
  by_cases h1 : 1 ≤ kk
  · by_cases h2 : kk ≤ n
    · rw [decide_eq_true ⟨h1, h2⟩]
      go_enter Tryz.func37, Tryz.ntmps37
      go_wp2
      go_ret
      exact ⟨by simp, rfl⟩
    · rw [decide_eq_false (fun h => h2 h.2)]
      go_enter Tryz.func37, Tryz.ntmps37
      go_wp2
      go_ret
      exact ⟨by simp, rfl⟩
  · rw [decide_eq_false (fun h => h1 h.1)]
    have d1 : decide (1 ≤ kk) = false := decide_eq_false h1
    go_enter Tryz.func37, Tryz.ntmps37
    go_wp2
    go_ret
    exact ⟨rfl, rfl⟩

set_option maxHeartbeats 2000000 in
theorem rwho_t (B rt : Nat) (ro : Option Addr) (rc : Nat) (L : List One) (T : Tbl) (n : Nat) (k : UInt8) (t : UInt64) (w : World) (h : IsRT w B rt ro rc L) (hc : Cor T L n) :
    Calls Tryz.prog 14 #[.pointer (some ⟨rt, 0, none⟩), .int .u8 k.toNat, .int .u64 t.toNat] w fun e w' => e = .returned (.int .i64 (T.who k t)) ∧ w = w' := by
  have f0 := h.field
  have hfew := h.few
  have H := Lib.hid h
  obtain ⟨M, hM⟩ : ∃ M, M = L.length := ⟨_, rfl⟩
  have HM := Lib.hid hM
  rw [← hM] at f0 hfew
  rcases of_cases L k with ⟨i, hi, hI, hw⟩ | ⟨hI, hno⟩
  · obtain ⟨rl, cur, rfl, hg, hB, g1, g2, g3, hcell⟩ := h.at (by omega)
    have c2 : w.cell? ⟨rl, i * 7 + 2, none⟩ = some (.bool L[i].in_) := hcell i hi 2 (by decide)
    have c3 : w.cell? ⟨rl, i * 7 + 3, none⟩ = some (.int .u64 L[i].tok.toNat) := hcell i hi 3 (by decide)
    have hT := hc.tok i hi
    rw [hw] at hT
    have hiM : i < M := by omega
    rw [← hM] at g1
    have HI := Lib.hid hI
    clear h hcell hg g3 hM
    generalize L[i] = x at hw c2 c3 hT
    obtain ⟨_, _, xin, xtok, _⟩ := x
    dsimp only at hw c2 c3 hT
    clear hw hI
    cases xin with
    | false =>
      have HR : Hid (T.who k t = 9) := Lib.hid (by unfold Tbl.who; rw [hT]; rfl)
      clear hT
      go_enter Tryz.func14, Tryz.ntmps14
      go_wp2_with fail
      refine (rof_t B rt _ rc L k w H.out).mono ?_; rintro e w' ⟨rfl, rfl⟩; rw [HI.out]
      go_wp2_with fail
      go_ret
      rw [HR.out]
      exact ⟨rfl, rfl⟩
    | true =>
      by_cases ht : xtok = t
      · have HR : Hid (T.who k t = 0) := Lib.hid (by unfold Tbl.who; rw [hT]; simp [ht])
        have hb : ((xtok.toNat : Int) != (t.toNat : Int)) = false := by rw [ht]; simp
        clear hT ht
        go_enter Tryz.func14, Tryz.ntmps14
        go_wp2_with fail
        refine (rof_t B rt _ rc L k w H.out).mono ?_; rintro e w' ⟨rfl, rfl⟩; rw [HI.out]
        go_wp2_with fail
        go_ret
        rw [HR.out]
        exact ⟨rfl, rfl⟩
      · have HR : Hid (T.who k t = 9) := Lib.hid (by unfold Tbl.who; rw [hT]; simp [ht])
        have hb : ((xtok.toNat : Int) != (t.toNat : Int)) = true := by rw [bne_iff_ne]; intro e; exact ht (UInt64.toNat_inj.1 (by omega))
        clear hT ht
        go_enter Tryz.func14, Tryz.ntmps14
        go_wp2_with fail
        refine (rof_t B rt _ rc L k w H.out).mono ?_; rintro e w' ⟨rfl, rfl⟩; rw [HI.out]
        go_wp2_with fail
        go_ret
        rw [HR.out]
        exact ⟨rfl, rfl⟩
  · have HR : Hid (T.who k t = 9) := Lib.hid (by unfold Tbl.who; rw [(hc.no k hno).2.1]; rfl)
    have HI := Lib.hid hI
    clear h hI hno
    go_enter Tryz.func14, Tryz.ntmps14
    go_wp2_with fail
    refine (rof_t B rt _ rc L k w H.out).mono ?_; rintro e w' ⟨rfl, rfl⟩; rw [HI.out]
    go_wp2_with fail
    go_ret
    rw [HR.out]
    exact ⟨rfl, rfl⟩

end Go.Proofs.YthadgnaaipdpaaaGreatDoor
