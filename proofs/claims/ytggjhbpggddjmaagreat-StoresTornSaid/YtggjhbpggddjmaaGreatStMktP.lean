/- A closed store's market may be; plain Lean; no condition but those typed. -/
import Derived.Test.YtggjhbpggddjmaaGreatStMkt
import Derived.Test.YtggjhbpggddjmaaGreatStOldP
namespace Go.Proofs.YtggjhbpggddjmaaGreat
open Go.RowKit
set_option linter.unusedVariables false

theorem rc_fits {it : Nat} {D : Dsk} {i : Nat} (h : (rcD it D i).2 = true) : fitsC it (rcD it D i).1 = true := by
  unfold rcD recC at h ⊢
  split
  · rfl
  · rename_i h1
    rw [if_neg h1] at h
    cases hd : decR (D.get ((12 * (2 + i) : Nat) : Int)).2.1 with
    | none => rw [hd] at h; cases h
    | some r =>
      obtain ⟨sq, how, l⟩ := r
      rw [hd] at h
      dsimp only at h ⊢
      split at h
      · rename_i h2
        rw [if_pos h2]
        first | exact h2.2 | (simp at h2 ⊢; exact h2.2)
      · cases h
theorem fits_bid {it : Nat} {x : StR} (h : fitsC it x = true) : bidB (it : Int) x.bid = true ∧ decide (0 < x.bid.length) = x.stands := by
  unfold fitsC at h
  cases hs : x.stands with
  | true =>
    rw [hs, if_pos rfl] at h
    have h := of_decide_eq_true h
    refine ⟨?_, decide_eq_true (by have := h.1; have := h.2.2.1; omega)⟩
    unfold bidB
    rw [okB_eq, decide_eq_true h, Bool.or_true]
  | false =>
    rw [hs, if_neg (by decide)] at h
    have hb : x.bid = [] := by simpa using h
    rw [hb]
    exact ⟨rfl, rfl⟩
theorem mkt_ok {c : StC} {D : Dsk} {j : Nat} (h : StInv c D j) (o : List Int) (hp : phD c.s.length D = (2, o, true)) (ho : ordC c.s.length o = true) : mktB (mktC c D) = true ∧ ordL c.s.length D = o ∧ ordE c.s.length D = 0 := by
  have hl : ordL c.s.length D = o := by unfold ordL; rw [hp]; exact if_pos rfl
  have he : ordE c.s.length D = 0 := by unfold ordE; rw [hp]; exact if_pos rfl
  refine ⟨?_, hl, he⟩
  have h8 := h.n8
  have e1 : okB c.r c.r.length = true := by rw [okB_eq]; exact decide_eq_true h.may.r
  unfold mktB mktC
  dsimp only
  rw [e1, bidsK_length, decide_eq_true h8.1, decide_eq_true h8.2, hl, ho]
  simp only [Bool.true_and]
  rw [List.all_eq_true]
  intro b hb
  obtain ⟨i, hi, rfl⟩ := List.mem_map.1 hb
  exact (fits_bid (rc_fits (h.rc i (List.mem_range.1 hi)))).1
/-- Everyone, from some one on. -/
def turnL (n t : Nat) (k : Nat) : List Int := (List.range k).map fun i => (((i + t) % n : Nat) : Int)
theorem turnL_succ (n t k : Nat) : turnL n t (k + 1) = turnL n t k ++ [(((k + t) % n : Nat) : Int)] := by simp [turnL, List.range_succ]
theorem turnL_length (n t k : Nat) : (turnL n t k).length = k := by simp [turnL]
theorem turnL_ord (n t : Nat) (h : 1 ≤ n) : ordC n (turnL n t n) = true := by
  unfold ordC
  rw [Bool.and_eq_true, decide_eq_true_eq, List.all_eq_true]
  refine ⟨turnL_length _ _ _, fun j hj => decide_eq_true ?_⟩
  have hj' := List.mem_range.1 hj
  have htn : t % n < n := Nat.mod_lt _ (by omega)
  refine List.mem_map.2 ⟨(j + (n - t % n)) % n, List.mem_range.2 (Nat.mod_lt _ (by omega)), ?_⟩
  have : ((j + (n - t % n)) % n + t) % n = j := by
    rw [Nat.add_mod, Nat.mod_mod, ← Nat.add_mod]
    have e : j + (n - t % n) + t = j + n * (t / n + 1) := by
      have := Nat.div_add_mod t n
      rw [Nat.mul_add, Nat.mul_one]
      omega
    rw [e, Nat.add_mul_mod_self_left, Nat.mod_eq_of_lt hj']
  show (((((j + (n - t % n)) % n + t) % n : Nat)) : Int) = (j : Int)
  rw [this]
/-- A store's first turn. -/
theorem first_open {c : StC} {D : Dsk} {j : Nat} (h : StInv c D j) (hl : D.left = -1) (hp : phD c.s.length D = (0, [], true)) : ∃ D', turnD c.s.length D 1 [] = (0, D') ∧ StInv c D' (j + 1) ∧ D'.left = -1 ∧ phD c.s.length D' = (1, [], true) := by
  obtain ⟨e, D', h1, h2, h3, h4⟩ := h.turn 1 [] (free_room h.blown hl 2)
  rcases h4 with ⟨rfl, _, _, h5, h6⟩ | ⟨_, _, ⟨h5, _⟩ | ⟨_, h5, _⟩⟩
  · exact ⟨D', h1, h2, h6 hl, h5⟩
  · have t1 : turnsC c.s.length 1 [] = true := by unfold turnsC; rw [if_neg (by decide)]; rfl
    rw [t1] at h5; cases h5
  · rw [hp] at h5; exact absurd h5 (by decide)
theorem set_keep {c : StC} {D : Dsk} {j : Nat} (h : StInv c D j) (hl : D.left = -1) (who : Int) (x : StR) (hs : x.seq < 4294967296) : StInv c (setD c.s.length c.r.length D who x).2 (j + 1) ∧ (setD c.s.length c.r.length D who x).2.left = -1 ∧ phD c.s.length (setD c.s.length c.r.length D who x).2 = phD c.s.length D := by
  obtain ⟨e, D', h1, h2, h3, h4, h5⟩ := h.set who x hs (free_room h.blown hl 2)
  rw [h1]
  refine ⟨h2, ?_, h3⟩
  rcases h5 with ⟨_, _, _, _, _, _, h6⟩ | ⟨_, rfl, _⟩
  · exact h6 hl
  · exact hl
/-- A store's close, and what is refused behind it. -/
theorem close_all {c : StC} {D : Dsk} {j : Nat} (h : StInv c D j) (hl : D.left = -1) (hp : phD c.s.length D = (1, [], true)) (o : List Int) (ho : ordC c.s.length o = true) :
    ordE c.s.length D = 8 ∧ ∃ D', turnD c.s.length D 2 o = (0, D') ∧ StInv c D' (j + 1) ∧ phD c.s.length D' = (2, o, true) ∧ turnD c.s.length D' 3 [] = (8, D') := by
  refine ⟨by unfold ordE; rw [hp]; exact if_neg (by decide), ?_⟩
  obtain ⟨e, D', h1, h2, h3, h4⟩ := h.turn 2 o (free_room h.blown hl 2)
  have ht : turnsC c.s.length 2 o = true := by unfold turnsC; rw [if_pos rfl]; exact ho
  rcases h4 with ⟨rfl, _, _, h5, h6⟩ | ⟨_, _, ⟨h5, _⟩ | ⟨_, h5, _⟩⟩
  · refine ⟨D', h1, h2, h5, ?_⟩
    have t3 : turnsC c.s.length 3 [] = true := by unfold turnsC; rw [if_neg (by decide)]; rfl
    unfold turnD
    rw [if_neg (by rw [t3]; decide), h5]
    exact if_pos (by rfl)
  · rw [ht] at h5; cases h5
  · rw [hp] at h5; exact absurd h5 (by decide)

end Go.Proofs.YtggjhbpggddjmaaGreat
