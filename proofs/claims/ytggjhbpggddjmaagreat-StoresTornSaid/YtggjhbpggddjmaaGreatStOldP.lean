/- What comes of a record behind one that was set; plain Lean; no condition but those typed. -/
import Derived.Test.YtggjhbpggddjmaaGreatGSlotsLaw2
namespace Go.Proofs.YtggjhbpggddjmaaGreat
open Go.RowKit
set_option linter.unusedVariables false

theorem ordC_nil {n : Nat} (h : 1 ≤ n) : ordC n [] = false := by
  unfold ordC
  have : decide (([] : List Int).length = n) = false := decide_eq_false (by simp; omega)
  rw [this]; rfl
theorem fits_turned {it : Nat} {x : StR} (h : fitsC it x = true) (sq : Nat) : fitsC it ⟨sq, !x.stands, x.bid⟩ = false := by
  unfold fitsC at h ⊢
  cases hx : x.stands with
  | true =>
    rw [hx, if_pos rfl] at h
    have h := of_decide_eq_true h
    have : x.bid ≠ [] := fun e => by have := h.2.2.1; rw [e] at this; have := h.1; simp at *; omega
    show x.bid.isEmpty = false
    cases hb : x.bid with
    | nil => exact absurd hb this
    | cons a l => rfl
  | false =>
    rw [hx, if_neg (by decide)] at h
    have hb : x.bid = [] := by simpa using h
    show decide (okV x.bid it) = false
    rw [hb]
    exact decide_eq_false (fun h => by have := h.1; have := h.2.2.1; simp at *; omega)

/-- What a record does that is set first, and what comes behind it. -/
theorem old_plain {c : StC} {D : Dsk} (h : StInv c D 1) (hl : D.left = -1) (h0 : rcD c.r.length D 0 = (⟨0, false, []⟩, true)) (hp : phD c.s.length D = (0, [], true)) (x : StR) (hs : x.seq < 4294967296) :
    (∃ e, e ≠ 0 ∧ setD c.s.length c.r.length D ((0 : Nat) : Int) x = (e, D) ∧ (e = 1 ∨ (e = 10 ∧ x.seq = 0))) ∨
    (∃ D', setD c.s.length c.r.length D ((0 : Nat) : Int) x = (0, D') ∧ StInv c D' 2 ∧ 0 < x.seq ∧ (∀ sq, sq < x.seq → setD c.s.length c.r.length D' ((0 : Nat) : Int) ⟨sq, x.stands, x.bid⟩ = (10, D')) ∧ setD c.s.length c.r.length D' ((0 : Nat) : Int) x = (10, D') ∧
      (∀ sq, setD c.s.length c.r.length D' ((0 : Nat) : Int) ⟨sq, !x.stands, x.bid⟩ = (1, D')) ∧ (∀ q, q ≠ 1 → q ≠ 3 → turnD c.s.length D' q [] = (if q = 0 then 8 else 1, D'))) := by
  obtain ⟨e, D', q1, q2, q3, q4, q5⟩ := h.set ((0 : Nat) : Int) x hs (free_room h.blown hl 2)
  have h8 := h.n8
  have e0 : (((0 : Nat) : Int)).toNat = 0 := rfl
  rcases q5 with ⟨rfl, b1, b2, b3, b4, b5, b6⟩ | ⟨b1, rfl, b2⟩
  · right
    rw [e0, h0] at b4
    rw [e0] at b5
    have hin : ¬ (((0 : Nat) : Int) < 0 ∨ (c.s.length : Int) ≤ ((0 : Nat) : Int)) := by omega
    refine ⟨D', q1, q2, b4, fun sq hq => ?_, ?_, fun sq => ?_, fun q hq1 hq3 => ?_⟩
    · unfold setD
      rw [if_neg hin, if_neg (by show ¬ fitsC c.r.length ⟨sq, x.stands, x.bid⟩ = false; rw [show fitsC c.r.length ⟨sq, x.stands, x.bid⟩ = fitsC c.r.length x from rfl, b3]; decide), e0, b5, if_pos (Nat.le_of_lt hq)]
    · unfold setD
      rw [if_neg hin, if_neg (by rw [b3]; decide), e0, b5, if_pos (Nat.le_refl _)]
    · unfold setD
      rw [if_neg hin, if_pos (fits_turned b3 sq)]
    · unfold turnD
      rw [q3, hp]
      by_cases hq2 : q = 2
      · have : turnsC c.s.length q [] = false := by unfold turnsC; rw [if_pos hq2]; exact ordC_nil h8.1
        rw [if_pos this, if_neg (by omega)]
      · by_cases hq0 : q = 0
        · have t : turnsC c.s.length q [] = true := by unfold turnsC; rw [if_neg hq2, hq0]; rfl
          rw [if_neg (by rw [t]; decide), if_pos (by rw [hq0]; rfl), if_pos hq0]
        · have t : turnsC c.s.length q [] = false := by
            unfold turnsC
            rw [if_neg hq2, decide_eq_false (by omega)]; rfl
          rw [if_pos t, if_neg hq0]
  · left
    refine ⟨e, b1, q1, ?_⟩
    rcases b2 with ⟨c1, c2⟩ | ⟨_, _, c1, c2⟩ | ⟨_, _, _, c1, c2⟩
    · omega
    · exact .inl c2
    · rw [e0, h0] at c1
      exact .inr ⟨c2, Nat.le_zero.1 c1⟩

end Go.Proofs.YtggjhbpggddjmaaGreat
