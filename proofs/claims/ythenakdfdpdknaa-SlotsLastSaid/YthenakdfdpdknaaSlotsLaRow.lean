/- SlotsLast: for every input it returns true, and each argument reads behind the call as it read before. Conditions: none. -/
import Derived.Test.YthenakdfdpdknaaSlotsLa
import Derived.Test.YthenakdfdpdknaaSlotsArgs
import Derived.Test.YthenakdfdpdknaaLift
namespace Go.Proofs.Ythenakdfdpdknaa
open Go.ChangeShapes Go.WideShapes Go.ChangeAt Go.RowKit
set_option linter.unusedVariables false

set_option maxRecDepth 100000 in
theorem slotsLast_lifted (os : Os) (started : os.Started) (H : Type) (enc : TypeId × Value → H) :
    ReturnsInHanded {} Try.checked os 3 .any (Rows.slotsLastSpec.pre6 enc Try.prog Try.f3 Rows.slotsLastRow.domain false) (Rows.slotsLastSpec.post enc Try.prog Try.f3 false true false false) := by
  refine returnsInHanded_of_change6 (C := Try.checked) own started (by kernel_rfl) Try.func3
    (ChangeSpec.witness6 (enc := enc) (C := Try.checked) false ⟨#[], #[.slice none 0 0, .slice none 0 0], []⟩ 8 (by kernel_rfl) (by kernel_rfl) (by kernel_rfl) (by kernel_rfl)) ?_
  intro W base args ds gs before hval0 hW _ hwt _
  have hval : ∀ (j : Nat) t v, Try.f3.params[j]? = some t → args[j]? = some v → Value.okWide Try.prog W .any base t v := hval0
  have hW' := hW
  obtain ⟨p, q, hA0, hV, rfl, hfz, hnd⟩ := hW
  have hA : DataW.TrodAll enc Try.prog W 0 (fun _ => true) true Try.f3.params.toList args.toList ds p := hA0
  rw [Try.params3] at hA hval hwt
  obtain ⟨v0, vs0, x0, ds0, p0, q0, hargs0, rfl, rfl, H0, r0⟩ := trodAll_cons hA
  obtain ⟨v1, vs1, x1, ds1, p1, q1, hargs1, rfl, rfl, H1, r1⟩ := trodAll_cons r0
  obtain ⟨rfl, rfl, rfl⟩ := trodAll_nil r1
  subst hargs1
  obtain rfl : args = #[v0, v1] := by cases args; simp_all
  obtain ⟨rfl, rfl⟩ := trodVars_none hV
  have sm := small_of_all hwt
  have k0 := H0
  have k1 := H1
  have lt0 : ∀ x ∈ p0, x.block < W.heap.size := by obtain ⟨m, hm⟩ := k0; exact DataW.trod_lt m _ _ _ hm
  have lt1 : ∀ x ∈ p1, x.block < W.heap.size := by obtain ⟨m, hm⟩ := k1; exact DataW.trod_lt m _ _ _ hm
  have o0 : Opened Try.prog W 22 v0.cells.toList := Opened.of H0 (weightsEach_get _ _ 0 22 _ sm rfl rfl)
  have o1 : Opened Try.prog W 23 v1.cells.toList := Opened.of H1 (weightsEach_get _ _ 1 23 _ sm rfl rfl)
  obtain ⟨la, ln, lc, L, rfl, h0, _⟩ := oBytess (hval 0 22 v0 rfl rfl) o0
  obtain rfl := h0.1
  obtain ⟨aF, cF, hls⟩ := h0.ls
  obtain ⟨ma, mn, mc, m, rfl, h1, _⟩ := oBytes (hval 1 23 v1 rfl rfl) o1
  clear hA0 hval0
  refine (slast_test la lc aF cF L ma mn mc m W hls h1).mono fun e W' ⟨he, bel⟩ => ?_
  subst he
  exact ⟨_, rfl, _, _, _, [], _, [], hW', trodAll_mk1 (shut_bool Try.underlying4 _), (trodAll_cons_mk (Below.trod laidOut (by kernel_rfl) (of_decide_eq_true (by kernel_rfl)) k0 bel lt0) (trodAll_cons_mk (Below.trod laidOut (by kernel_rfl) (of_decide_eq_true (by kernel_rfl)) k1 bel lt1) trodAll_mk0)), rfl, bel.frame _, fun h => by cases h⟩

theorem slotsLast_holds : Rows.SlotsLastSaid :=
  OpenClaim.holds_of_wide 3 Try.f3 rfl rfl rfl rfl rfl rfl rfl ⟨rfl, rfl, rfl, rfl, rfl⟩ rfl rfl rfl rfl rfl (by kernel_rfl) Try.func3 (by kernel_rfl)
    (of_decide_eq_true (by kernel_rfl)) (by unfold Func.isWrapper; first | (rw [if_pos (by decide +kernel)]; kernel_rfl) | (rw [if_neg (by decide +kernel)]; exact ⟨rfl, rfl⟩))
    (fun os started H enc _ => slotsLast_lifted os started H enc)
#print axioms slotsLast_holds

end Go.Proofs.Ythenakdfdpdknaa
