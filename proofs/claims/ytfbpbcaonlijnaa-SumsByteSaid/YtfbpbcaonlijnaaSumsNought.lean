/- The statements SumsNought and SumsByte: what they return; no condition but those typed. -/
import Derived.Test.YtfbpbcaonlijnaaSumsBack
import Derived.Test.YtfbpbcaonlijnaaAppend
namespace Go.Proofs.Ytfbpbcaonlijnaa
open Go.RowKit Go.ChangeShapes Go.WideShapes Go.ChangeAt
set_option linter.unusedVariables false

theorem rowU8 : RowTy Try.prog 22 5 1 1 (.int .u8 0) := ⟨Try.underlying22, info5, rfl, by decide⟩
theorem bcells_one (l : List UInt8) : ∀ u ∈ bcells l, u.oneCell' = true := by
  intro u hu
  obtain ⟨b, _, rfl⟩ := List.mem_map.1 hu
  rfl
theorem bcells_append (a b : List UInt8) : bcells (a ++ b) = bcells a ++ bcells b := List.map_append
theorem bcells_zeros (k : Nat) : bcells (List.replicate k 0) = List.replicate k (.int .u8 0) := by unfold bcells; rw [List.map_replicate]; rfl
theorem IsB.at {w : World} {a : Option Addr} {m c : Nat} {l : List UInt8} (h : IsB w a m c l) : At w a (bcells l) := by
  obtain ⟨_, _, _, ⟨rfl, _⟩ | ⟨b, off, rfl, _, hc⟩⟩ := h
  · exact At.nil _ _
  · refine At.of_cells fun j hj => ?_
    have hj' : j < l.length := by simpa [bcells] using hj
    rw [hc j hj']
    simp [bcells]
/-- What is owned, read as bytes. -/
theorem isB_of_owns {w : World} {base e n : Nat} {a : Option Addr} {m c : Nat} {l : List UInt8} (h : w.ownsRow base e 1 (.slice a m c) n (bcells l)) (hn : n = l.length) : IsB w a m c l := by
  have hl := h.1
  rcases h.2 with ⟨hv, h0⟩ | ⟨g, cap, cur, hv, hb, hg, hnc, hcm, hcs, htk⟩
  · cases hv
    have : l = [] := List.eq_nil_of_length_eq_zero (by omega)
    subst this
    exact ⟨rfl, Nat.le_refl _, by decide, .inl ⟨rfl, fun _ => rfl⟩⟩
  · cases hv
    refine ⟨hn, by omega, hcm, .inr ⟨g, 0, rfl, ?_, fun i hi => ?_⟩⟩
    · exact (h.lt g rfl).2
    · rw [Nat.zero_add]
      exact cells_of_owns h i _ (by simp [bcells, hi])

set_option maxHeartbeats 1000000 in
theorem snought_any (n : Nat) (a : Option Addr) (m cap : Nat) (l : List UInt8) (k : Nat) (w : World) (hn : n < 4294967296) (h : IsB w a m cap l) (hk : k < 65536) :
    Calls Try.prog 7 #[.int .u32 n, .slice a m cap, .int .u16 k] w fun e w' => e = .returned (.bool true) ∧ Below w.heap.size w w' := by
  by_cases hb : 50000 < m
  · clear h
    go_enter Try.func7, Try.ntmps7
    go_wp2_with ((go_at_call 14; refine (alive_any _).mono ?_; rintro e w' ⟨rfl, hb⟩))
    go_ret
    exact ⟨rfl, hb⟩
  obtain rfl := h.1
  have hm : l.length ≤ 50000 := by omega
  have hz : onN n (l ++ List.replicate (k % 3000) 0) = 0 ↔ onN n l = 0 := by
    rw [onN_G, onN_G, G.on_append]
    exact G.on_zeros okN _ _ (G.on_lt okN _ _ hn)
  have hk3 : k % 3000 < 3000 := Nat.mod_lt _ (by decide)
  have HZ : Hid _ := Lib.hid hz
  clear hz
  go_enter Try.func7, Try.ntmps7
  go_wp2_with fail
  refine (on_any _ _ _ n l _ hn h).mono ?_; rintro e w1 ⟨rfl, hb1⟩
  have h1 := h.below hb1
  have s1 := hb1.size
  go_wp2_with (first
    | (at_builtin; refine wpList_append_any rowU8 rfl (.const (.slice none 0 0)) (.tmp 16) rfl w1.heap.size (.slice none 0 0) 0 [] rfl (World.ownsRow_nil _ _ _ _) a l.length cap (bcells l) rfl (by rw [bcells_length]; omega) h1.at (bcells_one l) (by unfold maxLen; omega) (by omega) (Nat.le_refl _) ?_; intro b2 c2 w2 hown2 hg2 hat2; simp only [Nat.zero_add, List.nil_append] at hown2 hat2)
    | (at_builtin; refine wpList_append_zeros_any rowU8 rfl rfl rfl (.tmp 17) (.tmp 20) 3 rfl w1.heap.size .i64 .i64 Try.underlying3 _ _ _ rfl hown2 (k % 3000) rfl (by unfold maxLen; omega) (by omega) hg2.size ?_; intro b3 c3 w3 hown3 hg3 hat3))
  have hl3 : bcells l ++ List.replicate (k % 3000) (.int .u8 0) = bcells (l ++ List.replicate (k % 3000) 0) := by rw [bcells_append, bcells_zeros]
  rw [hl3] at hown3
  clear hl3
  have hm3 : l.length + k % 3000 = (l ++ List.replicate (k % 3000) 0).length := by simp
  have hin3 : IsB w3 b3 (l.length + k % 3000) c3 (l ++ List.replicate (k % 3000) 0) := isB_of_owns hown3 hm3
  clear hm3
  have hbel2 : Below w1.heap.size w1 w2 := (Below.refl _ _).grown hg2 (Nat.le_refl _) (by simp [Value.ownBlock])
  have hbel3 : Below w1.heap.size w1 w3 := hbel2.grown hg3 hg2.size (fun j hj => (hown2.lt j hj).1)
  have h3 := h1.below hbel3
  have s3 := hbel3.size
  clear hown2 hg2 hat2 hown3 hg3 hat3 hbel2
  refine (alive_any _).mono ?_; rintro e w4 ⟨rfl, hb4⟩
  have hin4 := hin3.below hb4
  have s4 := hb4.size
  go_wp2_with fail
  refine (on_any _ _ _ n _ _ hn hin4).mono ?_; rintro e w5 ⟨rfl, hb5⟩
  have e6 : (((onN n (l ++ List.replicate (k % 3000) 0) : Int) == 0) == ((onN n l : Int) == 0)) = true := by
    have h3 := HZ.out
    rw [beq_iff_eq, Bool.eq_iff_iff, beq_iff_eq, beq_iff_eq]
    constructor
    · intro h; have := h3.1 (by omega); omega
    · intro h; have := h3.2 (by omega); omega
  go_wp2_with fail
  go_ret
  exact ⟨rfl, ((hb1.trans (hbel3.mono s1)).trans (hb4.mono (by omega))).trans (hb5.mono (by omega))⟩

end Go.Proofs.Ytfbpbcaonlijnaa
