/- The statement SumsByte: what it returns; no condition but those typed. -/
import Derived.Test.YtfbpbcaonlijnaaSumsNought
import Derived.Deep.RegionHeld3
namespace Go.Proofs.Ytfbpbcaonlijnaa
open Go.RowKit Go.ChangeShapes Go.WideShapes Go.ChangeAt
set_option linter.unusedVariables false

theorem At.grown {w w' : World} {row : Option Nat} {bo : Option Addr} {news : List Value} (h : At w bo news) (hg : w.grownBy w' row) (hne : ∀ b, bo = some b → some b.block ≠ row) : At w' bo news := by
  intro j u hu
  obtain ⟨b, hb, hc⟩ := h j u hu
  refine ⟨b, hb, hg.cell hc ?_⟩
  have := hne b hb
  by_cases h0 : j = 0
  · subst h0; simpa [Addr.add] using this
  · simpa [Addr.add, h0] using this

theorem At.one_drew (w : World) (v : Value) (e : TypeId) : At (w.alloc (.cells #[v] e)).drew (some ⟨w.heap.size, 0, none⟩) [v] := fun j u h => ⟨_, rfl, one_at w v e j u h⟩

theorem IsB.at_below {w W : World} {a : Option Addr} {m c : Nat} {l : List UInt8} (h : IsB w a m c l) (hW : Below w.heap.size w W) : At W a (bcells l) := (h.below hW).at
theorem isB_take {w : World} {b off c k : Nat} {l : List UInt8} (h : IsB w (some ⟨b, off, none⟩) l.length c l) (hk : k ≤ l.length) : IsB w (some ⟨b, off, none⟩) k c (l.take k) := by
  obtain ⟨_, h1, h2, h3⟩ := h
  refine ⟨by simp; omega, by simp; omega, h2, ?_⟩
  rcases h3 with ⟨rfl, h4⟩ | ⟨b', off', hv, hb, hc⟩
  · exact .inl ⟨by simp, fun h => by cases h⟩
  · refine .inr ⟨b', off', hv, hb, fun i hi => ?_⟩
    have hi' : i < l.length := by simp at hi; omega
    rw [hc i hi']; simp
theorem at_drop {w W : World} {b off c k : Nat} {l : List UInt8} (h : IsB w (some ⟨b, off, none⟩) l.length c l) (hk : k ≤ l.length) (hW : Below w.heap.size w W) :
    At W (if c = k then some ⟨b, off, none⟩ else some ⟨b, off + k, none⟩) (bcells (l.drop k)) := by
  obtain ⟨_, h1, h2, h3⟩ := h.below hW
  by_cases hl : l.drop k = []
  · rw [hl]; exact At.nil _ _
  have hlt : k < l.length := by
    rcases Nat.lt_or_ge k l.length with h | h
    · exact h
    · exact absurd (List.drop_eq_nil_of_le h) hl
  rw [if_neg (by omega)]
  rcases h3 with ⟨rfl, _⟩ | ⟨b', off', hv, hb, hc⟩
  · simp at hlt
  · cases hv
    refine At.of_cells fun j hj => ?_
    have hj' : k + j < l.length := by simp [bcells] at hj; omega
    rw [Nat.add_assoc, hc (k + j) hj']
    simp [bcells]

theorem bel_alloc {w W : World} (h : Below w.heap.size w W) (o : Obj) : Below w.heap.size w (W.alloc o) := h.alloc h.size o

set_option maxHeartbeats 400000 in
theorem sbyte_some (b off cap at16 : Nat) (l : List UInt8) (c : UInt8) (w : World) (hm : l.length ≤ 50000) (h0 : 0 < l.length) (hat : at16 < 65536) (hcap : l.length ≤ cap) (hcm : cap ≤ maxLen) (hIsB : IsB w (some ⟨b, off, none⟩) l.length cap l) (hb : b < w.heap.size)
    (hc : ∀ i (h : i < l.length), w.cell? ⟨b, off + i, none⟩ = some (.int .u8 l[i].toNat)) :
    Calls Try.prog 5 #[.slice (some ⟨b, off, none⟩) l.length cap, .int .u16 at16, .int .u8 c.toNat] w fun e w' => e = .returned (.bool true) ∧ Below w.heap.size w w' := by
  have hne : ((l.length : Int) == 0) = false := by rw [beq_eq_false_iff_ne]; omega
  have hd : decide ((50000 : Int) < (l.length : Int)) = false := by simp; omega
  have hpos : (1 : Int) ≤ (l.length : Int) := by omega
  obtain ⟨k, hk⟩ : ∃ k, k = at16 % l.length := ⟨_, rfl⟩
  have hkl : k < l.length := by rw [hk]; exact Nat.mod_lt _ h0
  have hkI : ((at16 : Int) % (l.length : Int)) = (k : Int) := by rw [hk]; simp
  have hkc : k ≤ cap := by omega
  have hkc1 : k + 1 ≤ l.length := by omega
  have hkc2 : (k : Int) + 1 ≤ l.length := by omega
  have hw1 : IntKind.i64.wrap ((k : Int) + 1) = (k : Int) + 1 := by rw [IntKind.wrap_i64]; omega
  have hw2 : (0 : Int) ≤ (k : Int) + 1 := by omega
  have hw3 : ((k : Int) + 1).toNat = k + 1 := by omega
  have HK : Hid _ := Lib.hid hkI
  clear hk hkI
  go_enter Try.func5, Try.ntmps5
  go_wp2
  rw [HK.out]
  have hA3 : ∀ W, Below w.heap.size w W → At W (some ⟨b, off, none⟩) (bcells (l.take k)) := fun W hW => (isB_take hIsB (by omega)).at_below hW
  have hA11 : ∀ W, Below w.heap.size w W → At W (if cap = k + 1 then some ⟨b, off, none⟩ else some ⟨b, off + (k + 1), none⟩) (bcells (l.drop (k + 1))) := fun W hW => (at_drop hIsB (by omega) hW)
  have hl3 : Hid ((bcells (l.take k)).length = k * 1) := Lib.hid (by rw [bcells_length, List.length_take]; omega)
  have hm3 : 0 + k ≤ maxLen := by unfold maxLen; omega
  have hm3' : (0 + k) * 1 ≤ 140737488355328 := by omega
  have hl6 : Hid ([Value.int .u8 c.toNat].length = 1 * 1) := Lib.hid rfl
  have hm6 : k + 1 ≤ maxLen := by unfold maxLen; omega
  have hm6' : (k + 1) * 1 ≤ 140737488355328 := by omega
  have hl11 : Hid ((bcells (l.drop (k + 1))).length = (l.length - (k + 1)) * 1) := Lib.hid (by rw [bcells_length, List.length_drop]; omega)
  have hm11 : k + 1 + (l.length - (k + 1)) ≤ maxLen := by unfold maxLen; omega
  have hm11' : (k + 1 + (l.length - (k + 1))) * 1 ≤ 140737488355328 := by omega
  go_region_law (first
    | (refine step_append_any rowU8 rfl (.const (.slice none 0 0)) (.tmp 25) (by rfl) w.heap.size (.slice none 0 0) 0 [] (by rfl) (World.ownsRow_nil _ _ _ _) (some ⟨b, off, none⟩) k cap (bcells (l.take k)) (by simp [Act.eval, Act.put]) hl3.out (hA3 _ (by first | exact (Below.refl _ _).drew | exact bel_alloc (Below.refl _ _).drew _)) (bcells_one _) hm3 hm3' (by simp) ?_; intro b2 c2 w2 hown2 hg2 hat2; simp only [Nat.zero_add, List.nil_append] at hown2 hat2; have hbel2 : Below w.heap.size w w2 := by first | exact (Below.refl _ _).drew.grown hg2 (Nat.le_refl _) (by simp [Value.ownBlock]) | exact (bel_alloc (Below.refl _ _).drew _).grown hg2 (by simp) (by simp [Value.ownBlock]))
    | (refine step_append_any rowU8 rfl (.tmp 26) (.tmp 28) (by rfl) w.heap.size (.slice b2 k c2) k (bcells (l.take k)) (by simp [Act.eval]) (hown2.alloc _) (some ⟨w2.heap.size, 0, none⟩) 1 1 [.int .u8 c.toNat] (by simp [Act.eval]) hl6.out (At.one _ _ _) (one_cell _ rfl) hm6 hm6' (by simp; exact Nat.le_succ_of_le hbel2.size) ?_; intro b3 c3 w3 hown3 hg3 hat3; have hbel3 : Below w.heap.size w w3 := (bel_alloc hbel2 _).grown hg3 (by simp; exact Nat.le_succ_of_le hbel2.size) (fun j hj => (hown2.lt j hj).1))
    | (refine step_append_any rowU8 rfl (.tmp 26) (.tmp 28) (by rfl) w.heap.size (.slice b2 k c2) k (bcells (l.take k)) (by simp [Act.eval]) hown2 (some ⟨w.heap.size, 0, none⟩) 1 1 [.int .u8 c.toNat] (by simp [Act.eval]) hl6.out ((At.one_drew w _ _).grown hg2 (by simp [Value.ownBlock])) (one_cell _ rfl) hm6 hm6' hbel2.size ?_; intro b3 c3 w3 hown3 hg3 hat3; have hbel3 : Below w.heap.size w w3 := hbel2.grown hg3 hbel2.size (fun j hj => (hown2.lt j hj).1))
    | (refine step_append_any rowU8 rfl (.tmp 29) (.tmp 33) (by rfl) w.heap.size (.slice b3 (k + 1) c3) (k + 1) _ (by simp [Act.eval]) hown3 (if cap = k + 1 then some ⟨b, off, none⟩ else some ⟨b, off + (k + 1), none⟩) (l.length - (k + 1)) (cap - (k + 1)) (bcells (l.drop (k + 1))) (by simp [Act.eval]) hl11.out (hA11 _ hbel3) (bcells_one _) hm11 hm11' hbel3.size ?_; intro b4 c4 w4 hown4 hg4 hat4; have hbel4 : Below w.heap.size w w4 := hbel3.grown hg4 hbel3.size (fun j hj => (hown3.lt j hj).1))
    | fail)
  all_goals
    clear hg2 hat2 hg3 hat3 hown2 hown3 hbel2 hbel3 hA3 hA11 hl3 hl6 hl11 hm3 hm3' hm6 hm6' hm11 hm11' hg4 hat4
    have el : bcells (l.take k) ++ [.int .u8 c.toNat] ++ bcells (l.drop (k + 1)) = bcells (l.take k ++ [c] ++ l.drop (k + 1)) := by rw [bcells_append, bcells_append]; rfl
    have hin4 : IsB w4 b4 l.length c4 (l.take k ++ [c] ++ l.drop (k + 1)) := by
      have e0 : k + 1 + (l.length - (k + 1)) = l.length := by omega
      rw [e0, el] at hown4
      exact isB_of_owns hown4 (by simp; omega)
    have h4 := hIsB.below hbel4
    have s4 := hbel4.size
    have hbb : b < w4.heap.size := by omega
    have hcell : w4.cell? ⟨b, off + k, none⟩ = some (.int .u8 l[k].toNat) := (hbel4.cell (p := ⟨b, off + k, none⟩) hb).trans (hc k hkl)
    have hfin : ((((onN 2166136261 (l.take k ++ [c] ++ l.drop (k + 1)) : Nat) : Int) == ((onN 2166136261 l : Nat) : Int)) == ((c.toNat : Int) == (l[k].toNat : Int))) = true := by
      have h3 := G.on_set okN 2166136261 (by decide) l k hkl c
      rw [← onN_G, ← onN_G] at h3
      rw [beq_iff_eq, Bool.eq_iff_iff, beq_iff_eq, beq_iff_eq]
      constructor
      · intro h; have := h3.1 (by omega); rw [this]
      · intro h
        have hcc : c = l[k] := UInt8.toNat_inj.1 (by omega)
        have := h3.2 hcc; omega
    clear el hown4 hc
    revert hcell hfin
    generalize l[k] = d
    intro hcell hfin
    generalize l.take k ++ [c] ++ l.drop (k + 1) = L at hin4 hfin
    generalize (if cap = k + 1 then some (⟨b, off, none⟩ : Addr) else some ⟨b, off + (k + 1), none⟩) = bo
    go_wp2_with fail
    go_region_held3 (fun w' => w'.cell? ⟨b, off + k, none⟩ = some (.int .u8 d.toNat)) (assumption) (first
      | (go_at_call 14; refine (alive_any _).mono ?_; rintro e w5 ⟨rfl, hb5'⟩; have hb5 : Below w4.heap.size w4 w5 := ((Below.refl _ _).drew).trans hb5'; have hcell5 := (hb5.cell (p := ⟨b, off + k, none⟩) hbb).trans hcell; have hin5 := hin4.below hb5; have h5 := h4.below hb5; have s5 := hb5.size)
      | (go_at_call 9; refine (of_any b4 _ c4 _ w5 hin5).mono ?_; rintro e w6 ⟨rfl, hb6⟩; have hcell6 := (hb6.cell (p := ⟨b, off + k, none⟩) (Nat.lt_of_lt_of_le hbb s5)).trans hcell5; have h6 := h5.below hb6; have s6 := hb6.size)
      | (go_at_call 9; refine (of_any _ _ _ l w6 h6).mono ?_; rintro e w7 ⟨rfl, hb7⟩; have hcell7 := (hb7.cell (p := ⟨b, off + k, none⟩) (Nat.lt_of_lt_of_le (Nat.lt_of_lt_of_le hbb s5) s6)).trans hcell6)
      | fail)
    go_wp2_with fail
    go_ret
    exact ⟨rfl, ((hbel4.trans (hb5.mono s4)).trans (hb6.mono (by omega))).trans (hb7.mono (by omega))⟩

theorem sbyte_any (a : Option Addr) (m cap : Nat) (l : List UInt8) (k n : Nat) (w : World) (h : IsB w a m cap l) (hk : k < 65536) (hn : n < 256) :
    Calls Try.prog 5 #[.slice a m cap, .int .u16 k, .int .u8 n] w fun e w' => e = .returned (.bool true) ∧ Below w.heap.size w w' := by
  have h0 := h
  obtain ⟨rfl, h1, h2, h3⟩ := h
  by_cases hz : l.length = 0
  · rw [hz]
    go_enter Try.func5, Try.ntmps5
    go_wp2_with ((go_at_call 14; refine (alive_any _).mono ?_; rintro e w' ⟨rfl, hb⟩))
    go_ret
    exact ⟨rfl, hb⟩
  by_cases hbig : 50000 < l.length
  · have hne : ((l.length : Int) == 0) = false := by rw [beq_eq_false_iff_ne]; omega
    clear h3 h0
    go_enter Try.func5, Try.ntmps5
    go_wp2_with ((go_at_call 14; refine (alive_any _).mono ?_; rintro e w' ⟨rfl, hb⟩))
    go_ret
    exact ⟨rfl, hb⟩
  rcases h3 with ⟨rfl, _⟩ | ⟨b, off, rfl, hb', hc⟩
  · exact absurd rfl hz
  · have hc' : (UInt8.ofNat n).toNat = n := by simp; omega
    have := sbyte_some b off cap k l (UInt8.ofNat n) w (by omega) (by omega) hk h1 h2 h0 hb' hc
    rw [hc'] at this
    exact this

end Go.Proofs.Ytfbpbcaonlijnaa
