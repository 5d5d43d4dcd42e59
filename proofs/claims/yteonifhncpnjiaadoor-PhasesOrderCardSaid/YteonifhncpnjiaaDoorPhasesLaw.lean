/- The statements of layer 22: what they return; conditions: those typed (the tables lie as the program lays them). -/
import Derived.Test.YteonifhncpnjiaaDoorPhases
import Derived.Test.YteonifhncpnjiaaDoorOrder
import Derived.Test.YteonifhncpnjiaaDoorSame
namespace Go.Proofs.YteonifhncpnjiaaDoor
open Go.RowKit
set_option linter.unusedVariables false

theorem hD_of (ds : List UInt8) (D : Array Value) (h : D = (ds.map fun b => Value.int .u8 b.toNat).toArray) (hl : ds.length = 16) : ∀ i, i < 16 → D[i]? = some (.int .u8 (ds.getD i 0).toNat) := by
  intro i hi
  subst h
  have : i < ds.length := by omega
  simp [this]
theorem order_zero : orderI (List.replicate 16 0) 3 = [1, 2, 0] := by decide +kernel

theorem lives_any (w : World) (hL : Laid w) :
    Calls Tryd.prog 7 #[] w fun e w' => e = .returned (.bool true) ∧ Below w.heap.size w w' := by
  go_enter Tryd.func7, Tryd.ntmps7
  go_wp2_with fail
  refine (order_good (List.replicate 16 0) _ 3 _ (by decide) (by decide) (hD_of _ _ rfl rfl)).mono ?_; rintro e w1 ⟨g, rfl, hb1, hown1⟩
  have hi1 : IsI w1 (some ⟨g, 0, none⟩) 3 3 [1, 2, 0] := by rw [← order_zero]; exact isI_of_owns hown1 (by rw [order_zero]; rfl)
  clear hown1
  have hL1 := hL.below hb1
  go_wp2_with fail
  refine (may_val 1 2 5 5 0 _ (by decide) (by decide)).mono ?_; rintro e w' ⟨rfl, rfl⟩
  go_wp2_with fail
  refine (may_val 1 2 6 5 8 _ (by decide) (by decide)).mono ?_; rintro e w' ⟨rfl, rfl⟩
  go_wp2_with fail
  refine (next_any 0 7 _ (by decide) hL1.next).mono ?_; rintro e w' ⟨rfl, rfl⟩
  rw [show nextN 0 7 = 0 from by decide]
  go_wp2_with fail
  have hb2 : ∀ o, Below w1.heap.size w1 (w1.alloc o) := fun o => bel_alloc2 _ _
  refine (same_any _ _ _ _ _ _ [1, 2, 0] [1, 2, 0] _ (hi1.below (hb2 _)) (IsI.fresh _ [1, 2, 0] _ _ _ rfl _ _ rfl rfl (by decide))).mono ?_; rintro e w3 ⟨rfl, j, rfl⟩
  rw [show decide ([1, 2, 0] = ([1, 2, 0] : List Int)) = true from by decide]
  go_wp2_with fail
  have hL3 := hL1.below ((hb2 (.cells #[.int .i64 1, .int .i64 2, .int .i64 0] 3)).trans (below_drewN (Below.refl _ _) j))
  refine (who_val 2 0 0 0 _ _ 3 9 _ (by decide) (by decide) hL3 (by decide)).mono ?_; rintro e w4 ⟨rfl, hb4⟩
  go_wp2_with fail
  go_ret
  have s1 := hb1.size
  exact ⟨rfl, (hb1.trans ((hb2 _).mono s1)).trans ((below_drewN (Below.refl _ _) j).trans (hb4.mono (by simp; omega)))⟩

/-! ### PhasesUntil -/
set_option maxHeartbeats 2000000 in
theorem until_any (p a now til : Nat) (w : World) (hp : p < 256) (ha : a < 256) (hn : now < 18446744073709551616) (ht : til < 18446744073709551616) (hL : Laid w) :
    Calls Tryd.prog 6 #[.agg #[.int .u8 p, .int .u8 a, .int .u64 now, .int .u64 til]] w fun e w' => e = .returned (.bool true) ∧ Below w.heap.size w w' := by
  have hb1 : ∀ o, Below w.heap.size w (w.alloc o) := fun o => bel_alloc2 _ _
  have hL1 : ∀ o, Laid (w.alloc o) := fun o => hL.below (hb1 o)
  have HL := Lib.hid hL1
  clear hL1 hL
  by_cases h23 : a = 2 ∨ a = 3
  · have hm : ∀ x, mayB p a x til = (p == 1 && decide (x ≤ til)) := fun x => by unfold mayB; rw [if_pos h23]
    have hm0 : mayB p a 0 til = (p == 1) := by rw [hm]; simp
    by_cases h1 : p = 1
    · subst h1
      by_cases hle : now ≤ til
      · have hv : mayB 1 a now til = true := by rw [hm]; simp [hle]
        have H1 := Lib.hid hv
        have H0 := Lib.hid hm0
        have hd : decide ((now : Int) ≤ (til : Int)) = true := by simp; omega
        clear hv hm0 hm
        rcases h23 with rfl | rfl
        all_goals
          go_enter Tryd.func6, Tryd.ntmps6
          go_wp2_with fail
          refine (may_val 1 _ now til 0 _ (by decide) (by rw [H1.out]; rfl)).mono ?_; rintro e w' ⟨rfl, rfl⟩
          go_wp2_with fail
          refine (may_val 1 _ 0 til 0 _ (by decide) (by rw [H0.out]; rfl)).mono ?_; rintro e w' ⟨rfl, rfl⟩
          go_wp2_with fail
          refine (lives_any _ (HL.out _)).mono ?_; rintro e w2 ⟨rfl, hb2⟩
          go_wp2_with fail
          go_ret
          exact ⟨rfl, (hb1 _).trans (hb2.mono (by simp))⟩
      · have hv : mayB 1 a now til = false := by rw [hm]; simp; omega
        have H1 := Lib.hid hv
        have H0 := Lib.hid hm0
        have hd : decide (now ≤ til) = false := by simp; omega
        clear hv hm0 hm hle
        rcases h23 with rfl | rfl
        all_goals
          go_enter Tryd.func6, Tryd.ntmps6
          go_wp2_with fail
          refine (may_val 1 _ now til 8 _ (by decide) (by rw [H1.out]; rfl)).mono ?_; rintro e w' ⟨rfl, rfl⟩
          go_wp2_with fail
          refine (may_val 1 _ 0 til 0 _ (by decide) (by rw [H0.out]; rfl)).mono ?_; rintro e w' ⟨rfl, rfl⟩
          go_wp2_with fail
          refine (lives_any _ (HL.out _)).mono ?_; rintro e w2 ⟨rfl, hb2⟩
          go_wp2_with fail
          go_ret
          exact ⟨rfl, (hb1 _).trans (hb2.mono (by simp))⟩
    · have hv : mayB p a now til = false := by rw [hm]; simp [h1]
      have hv0 : mayB p a 0 til = false := by rw [hm]; simp [h1]
      have H1 := Lib.hid hv
      have H0 := Lib.hid hv0
      have he : ((p : Int) == 1) = false := by rw [beq_eq_false_iff_ne]; omega
      clear hv hv0 hm hm0 h1
      rcases h23 with rfl | rfl
      all_goals
        go_enter Tryd.func6, Tryd.ntmps6
        go_wp2_with fail
        refine (may_val p _ now til 8 _ (by decide) (by rw [H1.out]; rfl)).mono ?_; rintro e w' ⟨rfl, rfl⟩
        go_wp2_with fail
        refine (may_val p _ 0 til 8 _ (by decide) (by rw [H0.out]; rfl)).mono ?_; rintro e w' ⟨rfl, rfl⟩
        go_wp2_with fail
        refine (lives_any _ (HL.out _)).mono ?_; rintro e w2 ⟨rfl, hb2⟩
        go_wp2_with fail
        go_ret
        exact ⟨rfl, (hb1 _).trans (hb2.mono (by simp))⟩
  · have hsame : mayB p a now til = mayB p a 0 til := by unfold mayB; rw [if_neg h23, if_neg h23]
    have e2 : ((a : Int) == 2) = false := by rw [beq_eq_false_iff_ne]; omega
    have e3 : ((a : Int) == 3) = false := by rw [beq_eq_false_iff_ne]; omega
    clear h23
    obtain ⟨v, hv⟩ : ∃ v, mayB p a 0 til = v := ⟨_, rfl⟩
    rw [hv] at hsame
    have H1 := Lib.hid hsame
    have H0 := Lib.hid hv
    clear hsame hv
    cases v
    · go_enter Tryd.func6, Tryd.ntmps6
      go_wp2_with fail
      refine (may_val p a now til 8 _ ha (by rw [H1.out]; rfl)).mono ?_; rintro e w' ⟨rfl, rfl⟩
      go_wp2_with fail
      refine (may_val p a 0 til 8 _ ha (by rw [H0.out]; rfl)).mono ?_; rintro e w' ⟨rfl, rfl⟩
      go_wp2_with fail
      refine (lives_any _ (HL.out _)).mono ?_; rintro e w2 ⟨rfl, hb2⟩
      go_wp2_with fail
      go_ret
      exact ⟨rfl, (hb1 _).trans (hb2.mono (by simp))⟩
    · go_enter Tryd.func6, Tryd.ntmps6
      go_wp2_with fail
      refine (may_val p a now til 0 _ ha (by rw [H1.out]; rfl)).mono ?_; rintro e w' ⟨rfl, rfl⟩
      go_wp2_with fail
      refine (may_val p a 0 til 0 _ ha (by rw [H0.out]; rfl)).mono ?_; rintro e w' ⟨rfl, rfl⟩
      go_wp2_with fail
      refine (lives_any _ (HL.out _)).mono ?_; rintro e w2 ⟨rfl, hb2⟩
      go_wp2_with fail
      go_ret
      exact ⟨rfl, (hb1 _).trans (hb2.mono (by simp))⟩

/-! ### PhasesWho -/
set_option maxRecDepth 100000 in
set_option maxHeartbeats 4000000 in
theorem pwho_any (ask who seq tok bd : Nat) (vs vb : Value) (w : World) (ha : ask < 256) (hw : who < 256) (hd : bd < 256) (hL : Laid w) :
    Calls Tryd.prog 5 #[.agg #[.int .u8 ask, .int .u8 who, .int .u32 seq, .int .u64 tok, vs, vb], .int .u8 bd] w fun e w' => e = .returned (.bool true) ∧ Below w.heap.size w w' := by
  have hb1 : ∀ o, Below w.heap.size w (w.alloc o) := fun o => bel_alloc2 _ _
  have hL1 : ∀ o, Laid (w.alloc o) := fun o => hL.below (hb1 o)
  have HL := Lib.hid hL1
  clear hL1 hL
  obtain ⟨n, hn⟩ : ∃ n : Int, n = 1 + (bd : Int) % 8 := ⟨_, rfl⟩
  obtain ⟨v, hv⟩ : ∃ v, whoB ask who (1 + (bd : Int) % 8) = v := ⟨_, rfl⟩
  cases v
  · have HV := Lib.hid hv
    clear hv hn
    go_enter Tryd.func5, Tryd.ntmps5
    go_wp2_with fail
    refine (who_val ask who seq tok vs vb _ 9 _ ha hw (HL.out _) (by rw [HV.out]; rfl)).mono ?_; rintro e w2 ⟨rfl, hb2⟩
    have hL2 := (HL.out _).below hb2
    go_wp2_with fail
    refine (lives_any _ hL2).mono ?_; rintro e w3 ⟨rfl, hb3⟩
    go_wp2_with fail
    go_ret
    have s2 := hb2.size
    simp at s2
    exact ⟨rfl, ((hb1 _).trans (hb2.mono (by simp))).trans (hb3.mono (by omega))⟩
  · have hcase : (who = 0 ∧ (ask = 1 ∨ ask = 10 ∨ ask = 6 ∨ ask = 7 ∨ ask = 8)) ∨ (who = 255 ∧ (ask = 1 ∨ ask = 10 ∨ ask = 9)) ∨
        ((1 ≤ who ∧ who ≠ 255 ∧ (who : Int) ≤ 1 + (bd : Int) % 8) ∧ (ask = 1 ∨ ask = 10 ∨ ask = 2 ∨ ask = 3 ∨ ask = 4 ∨ ask = 5)) := by
      unfold whoB at hv
      by_cases c0 : who = 0
      · rw [if_pos c0] at hv; simp at hv; exact .inl ⟨c0, by omega⟩
      rw [if_neg c0] at hv
      by_cases c1 : who = 255
      · rw [if_pos c1] at hv; simp at hv; exact .inr (.inl ⟨c1, by omega⟩)
      rw [if_neg c1] at hv
      by_cases c2 : 1 + (bd : Int) % 8 < who
      · rw [if_pos c2] at hv; cases hv
      rw [if_neg c2] at hv; simp at hv
      exact .inr (.inr ⟨⟨by omega, c1, by omega⟩, by omega⟩)
    have hq : ∀ (x y : Int), (w.alloc (.cells #[.int .u8 x, .int .u8 y, .int .u32 seq, .int .u64 tok, vs, vb] 42)).cell? ⟨w.heap.size, 0, none⟩ = some (.int .u8 x) ∧
        (w.alloc (.cells #[.int .u8 x, .int .u8 y, .int .u32 seq, .int .u64 tok, vs, vb] 42)).cell? ⟨w.heap.size, 1, none⟩ = some (.int .u8 y) := fun x y => by
      rw [cell_of_block (heap_new w _), cell_of_block (heap_new w _)]; exact ⟨rfl, rfl⟩
    have HQ := Lib.hid hq
    clear hq
    have HV := Lib.hid hv
    clear hv hn n
    rcases hcase with ⟨rfl, rfl | rfl | rfl | rfl | rfl⟩ | ⟨rfl, rfl | rfl | rfl⟩ | ⟨⟨g1, g2, g3⟩, rfl | rfl | rfl | rfl | rfl | rfl⟩
    all_goals (try (have q0 : ((who : Int) == 0) = false := by rw [beq_eq_false_iff_ne]; omega))
    all_goals (try (have q1 : ((who : Int) == 255) = false := by rw [beq_eq_false_iff_ne]; omega))
    all_goals (try (have q2 : decide ((1 : Int) ≤ (who : Int)) = true := by simp; omega))
    all_goals
      go_enter Tryd.func5, Tryd.ntmps5
      go_wp2_with fail
      refine (who_val _ _ seq tok vs vb _ 0 _ ha hw (HL.out _) (by rw [HV.out]; rfl)).mono ?_; rintro e w2 ⟨rfl, hb2⟩
      have hL2 := (HL.out _).below hb2
      have hq0 := (hb2.cell (p := ⟨w.heap.size, 0, none⟩) (by simp)).trans (HQ.out _ _).1
      have hq1 := (hb2.cell (p := ⟨w.heap.size, 1, none⟩) (by simp)).trans (HQ.out _ _).2
      go_wp2_with fail
      refine (lives_any _ hL2).mono ?_; rintro e w3 ⟨rfl, hb3⟩
      go_wp2_with fail
      go_ret
      have s2 := hb2.size
      simp at s2
      exact ⟨rfl, ((hb1 _).trans (hb2.mono (by simp))).trans (hb3.mono (by omega))⟩

theorem pwho_any2 (ask who seq tok : Nat) (vs vb : Value) (bd : Nat) (w : World) (ha : ask < 256) (hw : who < 256) (hd : bd < 256) (hL : Laid w) :
    Calls Tryd.prog 5 #[.agg #[.int .u8 ask, .int .u8 who, .int .u32 seq, .int .u64 tok, vs, vb], .int .u8 bd] w fun e w' => e = .returned (.bool true) ∧ Below w.heap.size w w' :=
  pwho_any ask who seq tok bd vs vb w ha hw hd hL

end Go.Proofs.YteonifhncpnjiaaDoor
