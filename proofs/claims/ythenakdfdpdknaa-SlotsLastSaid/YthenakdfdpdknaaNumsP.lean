/- The package nums: Put; conditions: those typed. -/
import Derived.Test.YthenakdfdpdknaaSlicesB
namespace Go.Proofs.Ythenakdfdpdknaa
open Go.RowKit
set_option linter.unusedVariables false

/-- A number as so many bytes, the lowest first. -/
def leB (v : Nat) : Nat → List UInt8
  | 0 => []
  | j + 1 => leB v j ++ [UInt8.ofNat (v / 256 ^ j)]
theorem leB_length (v k : Nat) : (leB v k).length = k := by
  induction k with
  | zero => rfl
  | succ k ih => simp [leB, ih]

theorem IsB.noneCap {w : World} {a : Option Addr} {n c : Nat} {l : List UInt8} (h : IsB w a n c l) : a = none → c = 0 := by
  rcases h.2.2.2 with ⟨_, h⟩ | ⟨b, off, h, _⟩
  · exact h
  · intro e; rw [h] at e; cases e

theorem IsB.clip {w : World} {a : Option Addr} {n c : Nat} {l : List UInt8} (h : IsB w a n c l) : IsB w a n n l := by
  obtain ⟨rfl, h1, h2, h3⟩ := h
  refine ⟨rfl, Nat.le_refl _, Nat.le_trans h1 h2, ?_⟩
  rcases h3 with ⟨h, _⟩ | h
  · exact .inl ⟨h, fun _ => by rw [h]; rfl⟩
  · exact .inr h
theorem owns_base {w : World} {B e sz n : Nat} {v : Value} {xs : List Value} (h : w.ownsRow B e sz v n xs) : ∀ j, v.ownBlock = some j → B ≤ j := fun j hj => by
  rcases h.2 with ⟨rfl, _⟩ | ⟨g, cap, cur, rfl, hb, _⟩
  · cases hj
  · cases hj; exact hb

set_option maxHeartbeats 2000000 in
theorem nput_any (a : Option Addr) (n c : Nat) (l : List UInt8) (v : Nat) (k : Nat) (w : World) (hl : IsB w a n c l) (hm : l.length ≤ 140737488351232) (hv : v < 18446744073709551616) (hk0 : 0 < k) (hk : k ≤ 8) :
    Calls Try.prog 28 #[.slice a n c, .int .u64 v, .int .i64 k] w fun e w' => ∃ a', e = .returned (.slice a' (l.length + k) (l.length + k)) ∧ Below w.heap.size w w' ∧ IsB w' a' (l.length + k) (l.length + k) (l ++ leB v k) := by
  go_enter Try.func28, Try.ntmps28
  have hmm : (if (k : Int) < 8 then (k : Int) else 8) = (k : Int) := by split <;> omega
  have hmx : (if (k : Int) < 0 then 0 else (k : Int)) = (k : Int) := by rw [if_neg (by omega)]
  go_wp2_with (first
    | (go_at_call 22; refine (sclone_any a n c l _ hl hm).mono ?_; rintro e w1 ⟨a1, c1, rfl, hb1, _, hown1⟩)
    | fail)
  clear hmm hmx
  obtain ⟨N, hN⟩ : ∃ N, N = k := ⟨_, rfl⟩
  have HN := Lib.hid hN
  clear hN
  go_loopw [13, 7, 1] (fun i s x wr => ∃ j : Nat, ∃ b' c', j ≤ k ∧ i = .int .i64 j ∧ s = .slice b' (l.length + j) c' ∧ x = .int .u64 ((v / 256 ^ j : Nat) : Int) ∧ wr.ownsRow w.heap.size 5 1 (.slice b' (l.length + j) c') (l.length + j) (bcells (l ++ leB v j)) ∧ Below w.heap.size w wr) (fun i _ _ _ => N - (intOf i).toNat)
  case atStart => exact ⟨0, a1, c1, Nat.zero_le _, rfl, rfl, by simp, by simpa [leB] using hown1, hb1⟩
  case round =>
    obtain ⟨j, b', c', hj, rfl, rfl, rfl, hown, hbw⟩ := hrel
    obtain ⟨q, hq⟩ : ∃ q, q = v / 256 ^ j := ⟨_, rfl⟩
    have hqv : q < 18446744073709551616 := by rw [hq]; exact Nat.lt_of_le_of_lt (Nat.div_le_self _ _) hv
    have hq1 : Hid (q / 256 = v / 256 ^ (j + 1)) := Lib.hid (by rw [hq, Nat.pow_succ, Nat.div_div_eq_div_mul])
    have hl1 : Hid (leB v (j + 1) = leB v j ++ [UInt8.ofNat q]) := Lib.hid (by rw [hq]; rfl)
    have e8 : Hid ((q : Int) % 256 = ((UInt8.ofNat q).toNat : Int)) := Lib.hid (by simp)
    have hi := isB_of_owns hown (by rw [List.length_append, leB_length])
    have hi1 : l.length + j ≤ c' := by have := hi.2.1; rw [List.length_append, leB_length] at this; exact this
    have hi2 := hi.2.2.1
    have hi3 := hi.noneCap
    rw [← hq]
    clear hq
    by_cases hlt : j < k
    · go_wp2_with (at_builtin; rw [e8.out]; refine wpList_append_any rowU8 rfl _ _ rfl w.heap.size _ (l.length + j) (bcells (l ++ leB v j)) rfl (hown.alloc _) (some ⟨wr.heap.size, 0, none⟩) 1 1 [.int .u8 (UInt8.ofNat q).toNat] rfl rfl (At.one _ _ _) (one_cell _ rfl) (by unfold maxLen; omega) (by omega) (by simp; exact Nat.le_trans hbw.size (Nat.le_succ _)) ?_; intro b2 c2 w2 hown2 hg2 hat2)
      have hB2 := (hbw.alloc hbw.size _).grown hg2 (by simp; exact Nat.le_trans hbw.size (Nat.le_succ _)) (fun i hi => owns_base hown i hi)
      have ht : bcells (l ++ leB v j) ++ [.int .u8 (UInt8.ofNat q).toNat] = bcells (l ++ leB v (j + 1)) := by rw [hl1.out, ← List.append_assoc, bcells_append _ [UInt8.ofNat q]]; rfl
      rw [ht] at hown2
      have HOW := Lib.hid hown2
      clear hown2 ht hown hi hi1 hi2 hi3 e8 hl1
      go_wp2_with fail
      go_roundw
      case rel => exact ⟨j + 1, b2, c2, by omega, by go_num, rfl, by rw [← hq1.out]; simp, HOW.out, hB2⟩
      case measure => have := HN.out; simp [intOf]; omega
    · have hjk : j = k := by omega
      subst hjk
      go_wp2_with (first
        | (go_at_call 21; refine (clip_any b' _ c' wr hi1 hi2 hi3).mono ?_; rintro e w2 ⟨rfl, rfl⟩)
        | fail)
      go_ret
      refine ⟨b', rfl, hbw, ?_⟩
      exact hi.clip

end Go.Proofs.Ythenakdfdpdknaa
