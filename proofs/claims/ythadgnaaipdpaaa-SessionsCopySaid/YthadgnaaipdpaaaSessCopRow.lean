/- SessionsCopy: for every input it returns true, and each argument reads behind the call as it read before. Conditions: none. -/
import Derived.Test.YthadgnaaipdpaaaSessCop
import Derived.Test.YthadgnaaipdpaaaSessArgs
import Derived.Test.YthadgnaaipdpaaaLift
namespace Go.Proofs.Ythadgnaaipdpaaa
open Go.ChangeShapes Go.WideShapes Go.ChangeAt Go.RowKit
set_option linter.unusedVariables false

set_option maxRecDepth 100000 in
theorem sessionsCopy_lifted (os : Os) (started : os.Started) (H : Type) (enc : TypeId × Value → H) :
    ReturnsInHanded {} Try.checked os 5 .any (Rows.sessionsCopySpec.pre6 enc Try.prog Try.f5 Rows.sessionsCopyRow.domain false) (Rows.sessionsCopySpec.post enc Try.prog Try.f5 false true false false) := by
  refine returnsInHanded_of_change6 (C := Try.checked) own started (by kernel_rfl) Try.func5
    (ChangeSpec.witness6 (enc := enc) (C := Try.checked) false ⟨#[], #[.agg #[.slice none 0 0, .slice none 0 0, .slice none 0 0, .slice none 0 0, .int .u64 0, .int .u8 0, .int .u32 0, .int .u32 0, .slice none 0 0], .agg #[.int .u8 0, .int .u8 0, .int .u8 0, .int .u8 0, .int .u8 0, .int .u8 0, .int .u8 0, .int .u8 0, .int .u8 0, .int .u8 0, .int .u8 0, .int .u8 0, .int .u8 0, .int .u8 0, .int .u8 0, .int .u8 0, .int .u8 0, .int .u8 0, .int .u8 0, .int .u8 0, .int .u8 0, .int .u8 0, .int .u8 0, .int .u8 0, .int .u8 0, .int .u8 0, .int .u8 0, .int .u8 0, .int .u8 0, .int .u8 0, .int .u8 0, .int .u8 0]], []⟩ 8 (by kernel_rfl) (by kernel_rfl) (by kernel_rfl) (by kernel_rfl)) ?_
  intro W base args ds gs before hval0 hW _ hwt _
  have hval : ∀ (j : Nat) t v, Try.f5.params[j]? = some t → args[j]? = some v → Value.okWide Try.prog W .any base t v := hval0
  have hW' := hW
  obtain ⟨p, q, hA0, hV, rfl, hfz, hnd⟩ := hW
  have hA : DataW.TrodAll enc Try.prog W 0 (fun _ => true) true Try.f5.params.toList args.toList ds p := hA0
  rw [Try.params5] at hA hval hwt
  obtain ⟨v0, vs0, x0, ds0, p0, q0, hargs, rfl, rfl, h0, r0⟩ := trodAll_cons hA
  obtain ⟨v1, vs1, x1, ds1, p1, q1, hargs1, rfl, rfl, h1', r1⟩ := trodAll_cons r0
  obtain ⟨rfl, rfl, rfl⟩ := trodAll_nil r1
  subst hargs1
  obtain rfl : args = #[v0, v1] := by cases args; simp_all
  obtain ⟨rfl, rfl⟩ := trodVars_none hV
  have sm := small_of_all hwt
  have k0 := h0
  have k1 := h1'
  have lt0 : ∀ x ∈ p0, x.block < W.heap.size := by obtain ⟨m, hm⟩ := k0; exact DataW.trod_lt m _ _ _ hm
  have lt1 : ∀ x ∈ p1, x.block < W.heap.size := by obtain ⟨m, hm⟩ := k1; exact DataW.trod_lt m _ _ _ hm
  have o0 : Opened Try.prog W 45 v0.cells.toList := Opened.of h0 (weightsEach_get _ _ 0 45 _ sm rfl rfl)
  have o1 : Opened Try.prog W 30 v1.cells.toList := Opened.of h1' (weightsEach_get _ _ 1 30 _ sm rfl rfl)
  obtain ⟨cs, cv, ra, rn, rc, rl, sa, sn, sc, L, aa, an, ac, ad, ua, un, uc, au, uv, who, s, l, pa, pn, pc, p, rfl, hcv, hcs, _, h1, h2, h3, h4, m1, m2, m3, _⟩ := seqs_open (hval 0 45 v0 rfl rfl) o0
  obtain ⟨dL, rfl, o1'⟩ := Opened.arrayV Try.underlying30 (hval 1 30 v1 rfl rfl) o1
  obtain ⟨d0, d1, g0, g1, hdL⟩ := draws_open o1'
  clear hA0 hval0
  refine (scopy_test ra rn rc uv sa sn sc aa an ac ua un uc who s l pa pn pc p d0 d1 cs cv dL W hcv hcs g0 g1 hdL L ad au h1 h2 h3 h4 m1 m2 m3).mono fun e W' ⟨he, bel⟩ => ?_
  subst he
  exact ⟨_, rfl, _, _, _, [], _, [], hW', trodAll_mk1 (shut_bool Try.underlying4 _), (trodAll_cons_mk (Below.trod laidOut (by kernel_rfl) (of_decide_eq_true (by kernel_rfl)) k0 bel lt0) (trodAll_cons_mk (Below.trod laidOut (by kernel_rfl) (of_decide_eq_true (by kernel_rfl)) k1 bel lt1) trodAll_mk0)), rfl, bel.frame _, fun h => by cases h⟩

theorem sessionsCopy_holds : Rows.SessionsCopySaid :=
  OpenClaim.holds_of_wide 5 Try.f5 rfl rfl rfl rfl rfl rfl rfl ⟨rfl, rfl, rfl, rfl, rfl⟩ rfl rfl rfl rfl rfl (by kernel_rfl) Try.func5 (by kernel_rfl)
    (of_decide_eq_true (by kernel_rfl)) (by unfold Func.isWrapper; first | (rw [if_pos (by decide +kernel)]; kernel_rfl) | (rw [if_neg (by decide +kernel)]; exact ⟨rfl, rfl⟩))
    (fun os started H enc _ => sessionsCopy_lifted os started H enc)
#print axioms sessionsCopy_holds

end Go.Proofs.Ythadgnaaipdpaaa
