/- SlotsApart: for every input it returns true, and each argument reads behind the call as it read before. Conditions: none. -/
import Derived.Test.YthenakdfdpdknaaSlotsAp
import Derived.Test.YthenakdfdpdknaaSlotsArgs
import Derived.Test.YthenakdfdpdknaaLift
namespace Go.Proofs.Ythenakdfdpdknaa
open Go.ChangeShapes Go.WideShapes Go.ChangeAt Go.RowKit
set_option linter.unusedVariables false

set_option maxRecDepth 100000 in
theorem slotsApart_lifted (os : Os) (started : os.Started) (H : Type) (enc : TypeId × Value → H) :
    ReturnsInHanded {} Try.checked os 6 .any (Rows.slotsApartSpec.pre6 enc Try.prog Try.f6 Rows.slotsApartRow.domain false) (Rows.slotsApartSpec.post enc Try.prog Try.f6 false true false false) := by
  refine returnsInHanded_of_change6 (C := Try.checked) own started (by kernel_rfl) Try.func6
    (ChangeSpec.witness6 (enc := enc) (C := Try.checked) false ⟨#[], #[.agg #[.slice none 0 0, .slice none 0 0, .slice none 0 0], .slice none 0 0, .int .u8 0], []⟩ 8 (by kernel_rfl) (by kernel_rfl) (by kernel_rfl) (by kernel_rfl)) ?_
  intro W base args ds gs before hval0 hW _ hwt _
  have hval : ∀ (j : Nat) t v, Try.f6.params[j]? = some t → args[j]? = some v → Value.okWide Try.prog W .any base t v := hval0
  have hW' := hW
  obtain ⟨p, q, hA0, hV, rfl, hfz, hnd⟩ := hW
  have hA : DataW.TrodAll enc Try.prog W 0 (fun _ => true) true Try.f6.params.toList args.toList ds p := hA0
  rw [Try.params6] at hA hval hwt
  obtain ⟨v0, vs0, x0, ds0, p0, q0, hargs0, rfl, rfl, H0, r0⟩ := trodAll_cons hA
  obtain ⟨v1, vs1, x1, ds1, p1, q1, hargs1, rfl, rfl, H1, r1⟩ := trodAll_cons r0
  obtain ⟨v2, vs2, x2, ds2, p2, q2, hargs2, rfl, rfl, H2, r2⟩ := trodAll_cons r1
  obtain ⟨rfl, rfl, rfl⟩ := trodAll_nil r2
  subst hargs2
  subst hargs1
  obtain rfl : args = #[v0, v1, v2] := by cases args; simp_all
  obtain ⟨rfl, rfl⟩ := trodVars_none hV
  have sm := small_of_all hwt
  have k0 := H0
  have k1 := H1
  have k2 := H2
  have lt0 : ∀ x ∈ p0, x.block < W.heap.size := by obtain ⟨m, hm⟩ := k0; exact DataW.trod_lt m _ _ _ hm
  have lt1 : ∀ x ∈ p1, x.block < W.heap.size := by obtain ⟨m, hm⟩ := k1; exact DataW.trod_lt m _ _ _ hm
  have lt2 : ∀ x ∈ p2, x.block < W.heap.size := by obtain ⟨m, hm⟩ := k2; exact DataW.trod_lt m _ _ _ hm
  have o0 : Opened Try.prog W 44 v0.cells.toList := Opened.of H0 (weightsEach_get _ _ 0 44 _ sm rfl rfl)
  have o1 : Opened Try.prog W 23 v1.cells.toList := Opened.of H1 (weightsEach_get _ _ 1 23 _ sm rfl rfl)
  have o2 : Opened Try.prog W 5 v2.cells.toList := Opened.of H2 (weightsEach_get _ _ 2 5 _ sm rfl rfl)
  obtain ⟨a0, n0, c0, l0, a1, n1, c1, l1, a2, n2, c2, l2, rfl, h0, h1, h2⟩ := bs3_open (hval 0 44 v0 rfl rfl) o0
  obtain rfl := h0.1
  obtain rfl := h1.1
  obtain rfl := h2.1
  obtain ⟨ma, mn, mc, m, rfl, h3, _⟩ := Opened.bytesV Try.underlying23 Try.underlying5 (by kernel_rfl) (by kernel_rfl) (hval 1 23 v1 rfl rfl) o1
  obtain ⟨wk, rfl⟩ := Opened.u8V Try.underlying5 (hval 2 5 v2 rfl rfl) o2
  clear hA0 hval0
  refine (sapart_test (fun i => match i with | 0 => a0 | 1 => a1 | _ => a2) (fun i => match i with | 0 => c0 | 1 => c1 | _ => c2) (fun i => match i with | 0 => l0 | 1 => l1 | _ => l2) ma mn mc m wk W h0 h1 h2 h3).mono fun e W' ⟨he, bel⟩ => ?_
  subst he
  exact ⟨_, rfl, _, _, _, [], _, [], hW', trodAll_mk1 (shut_bool Try.underlying4 _), (trodAll_cons_mk (Below.trod laidOut (by kernel_rfl) (of_decide_eq_true (by kernel_rfl)) k0 bel lt0) (trodAll_cons_mk (Below.trod laidOut (by kernel_rfl) (of_decide_eq_true (by kernel_rfl)) k1 bel lt1) (trodAll_cons_mk (Below.trod laidOut (by kernel_rfl) (of_decide_eq_true (by kernel_rfl)) k2 bel lt2) trodAll_mk0))), rfl, bel.frame _, fun h => by cases h⟩

theorem slotsApart_holds : Rows.SlotsApartSaid :=
  OpenClaim.holds_of_wide 6 Try.f6 rfl rfl rfl rfl rfl rfl rfl ⟨rfl, rfl, rfl, rfl, rfl⟩ rfl rfl rfl rfl rfl (by kernel_rfl) Try.func6 (by kernel_rfl)
    (of_decide_eq_true (by kernel_rfl)) (by unfold Func.isWrapper; first | (rw [if_pos (by decide +kernel)]; kernel_rfl) | (rw [if_neg (by decide +kernel)]; exact ⟨rfl, rfl⟩))
    (fun os started H enc _ => slotsApart_lifted os started H enc)
#print axioms slotsApart_holds

end Go.Proofs.Ythenakdfdpdknaa
