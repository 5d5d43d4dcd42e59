/- StoresTorn: for every input it returns true, and each argument reads behind the call as it read before. Conditions: none. -/
import Derived.Test.YtggjhbpggddjmaaGreatStTn
import Derived.Test.YtggjhbpggddjmaaGreatStArg2
import Derived.Test.YtggjhbpggddjmaaGreatGOpened
namespace Go.Proofs.YtggjhbpggddjmaaGreat
open Go.ChangeShapes Go.WideShapes Go.ChangeAt Go.RowKit
set_option linter.unusedVariables false

set_option maxRecDepth 100000 in
theorem storesTorn_lifted (os : Os) (started : os.Started) (H : Type) (enc : TypeId × Value → H) :
    ReturnsInHanded {} Tryz.checked os 5 .any (Rows.storesTornSpec.pre6 enc Tryz.prog Tryz.f5 Rows.storesTornRow.domain false) (Rows.storesTornSpec.post enc Tryz.prog Tryz.f5 false true false false) := by
  refine returnsInHanded_of_change6 (C := Tryz.checked) own started (by kernel_rfl) Tryz.func5
    (ChangeSpec.witness6 (enc := enc) (C := Tryz.checked) false ⟨#[], #[.agg #[.slice none 0 0, .slice none 0 0, .slice none 0 0, .slice none 0 0, .int .u64 0, .slice none 0 0, .int .u8 0, .int .i64 0, .int .u32 0, .bool false, .slice none 0 0, .int .u8 0, .slice none 0 0, .int .i64 0, .int .i64 0, .slice none 0 0, .int .u8 0]], []⟩ 8 (by kernel_rfl) (by kernel_rfl) (by kernel_rfl) (by kernel_rfl)) ?_
  intro W base args ds gs before hval0 hW _ hwt _
  have hval : ∀ (j : Nat) t v, Tryz.f5.params[j]? = some t → args[j]? = some v → Value.okWide Tryz.prog W .any base t v := hval0
  have hW' := hW
  obtain ⟨p, q, hA0, hV, rfl, hfz, hnd⟩ := hW
  have hA : DataW.TrodAll enc Tryz.prog W 0 (fun _ => true) true Tryz.f5.params.toList args.toList ds p := hA0
  rw [Tryz.params5] at hA hval hwt
  obtain ⟨v0, vs0, x0, ds0, p0, q0, hargs0, rfl, rfl, H0, r0⟩ := trodAll_cons hA
  obtain ⟨rfl, rfl, rfl⟩ := trodAll_nil r0
  obtain rfl : args = #[v0] := by cases args; simp_all
  obtain ⟨rfl, rfl⟩ := trodVars_none hV
  have sm := small_of_all hwt
  have k0 := H0
  have lt0 : ∀ x ∈ p0, x.block < W.heap.size := by obtain ⟨m, hm⟩ := k0; exact DataW.trod_lt m _ _ _ hm
  have o0 : Opened Tryz.prog W 52 v0.cells.toList := Opened.of H0 (weightsEach_get _ _ 0 52 _ sm rfl rfl)
  obtain ⟨cx, cc, la, ln, lc, L, mo, fq, rfl, hcf, hL, hR, hm, hmo, hfq⟩ := torn_arg (hval 0 52 v0 rfl rfl) o0
  clear hA0 hval0
  refine (torn_any cx cc la ln lc L mo fq W hcf hL hR hm hmo hfq).mono fun e W' ⟨he, bel⟩ => ?_
  subst he
  exact ⟨_, rfl, _, _, _, [], _, [], hW', trodAll_mk1 (shut_bool Tryz.underlying4 _), (trodAll_cons_mk (Below.trod laidOut (by kernel_rfl) (of_decide_eq_true (by kernel_rfl)) k0 bel lt0) trodAll_mk0), rfl, bel.frame _, fun h => by cases h⟩

theorem storesTorn_holds : Rows.StoresTornSaid :=
  OpenClaim.holds_of_wide 5 Tryz.f5 rfl rfl rfl rfl rfl rfl rfl ⟨rfl, rfl, rfl, rfl, rfl⟩ rfl rfl rfl rfl rfl (by kernel_rfl) Tryz.func5 (by kernel_rfl)
    (of_decide_eq_true (by kernel_rfl)) (by unfold Func.isWrapper; first | (rw [if_pos (by decide +kernel)]; kernel_rfl) | (rw [if_neg (by decide +kernel)]; exact ⟨rfl, rfl⟩))
    (fun os started H enc _ => storesTorn_lifted os started H enc)
#print axioms storesTorn_holds

end Go.Proofs.YtggjhbpggddjmaaGreat
