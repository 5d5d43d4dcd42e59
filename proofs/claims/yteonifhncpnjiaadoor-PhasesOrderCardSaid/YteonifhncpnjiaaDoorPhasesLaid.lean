/- From the condition on the listed variables to what the walks ask; the witness. -/
import Derived.Test.YteonifhncpnjiaaDoorPhases
import Derived.LaidMore
import Derived.Stop.Joined
namespace Go.Proofs.YteonifhncpnjiaaDoor
open Go.ChangeShapes Go.WideShapes Go.ChangeAt Go.WideMaps Go.WideElems Go.RowKit
set_option linter.unusedVariables false

def laid2 : List (String × DataW Unit) := [("salesroom/phases.may", Rows.laid_salesroom_phases_may), ("salesroom/phases.next", Rows.laid_salesroom_phases_next)]
theorem gMay : Tryd.prog.globalNamed "salesroom/phases.may" = some 1 := by kernel_rfl
theorem gNext : Tryd.prog.globalNamed "salesroom/phases.next" = some 0 := by kernel_rfl
theorem tMay : (Tryd.prog.globals[1]?).map (·.type) = some 50 := by kernel_rfl
theorem tNext : (Tryd.prog.globals[0]?).map (·.type) = some 48 := by kernel_rfl

theorem door_met (os : Os) (args : Array Value) : laidMetH Tryd.prog laid2 ((World.doorLaid Tryd.prog 400 os).forCall (fun _ _ => 0) ⟨#[], args, []⟩).memory :=
  laidMetH_of_parts3 (fuel := 8) (laidMet_of_run' 8 (by kernel_rfl) (by kernel_rfl)) (by kernel_rfl) (by kernel_rfl)

theorem row_of {W : World} {cs : List Value} {m : Nat} {sp : Nat → Bool} {hd : Bool} {enc : TypeId × Value → Unit} {r : Nat} {l : List UInt8} {x : DataW Unit × List MemPlace} (hne : l ≠ [])
    (hv : ∀ i, W.cell? ⟨1, i, none⟩ = cs[i]?) (h : DataW.trod enc Tryd.prog W 0 sp hd m 22 ((cs.drop r).take 1) = some x) (hx : x.1 = .slice (l.map fun b => .lit (.int .u8 b.toNat)) []) : LaidRow W r l := by
  rcases open_ints Tryd.underlying22 Tryd.underlying27 (by kernel_rfl) h with ⟨_, hx1⟩ | ⟨a, len, cap, zs, hcs, _, hl, hm, hz, hx1, hcell, _⟩
  · rw [hx1] at hx; cases hx
  · rw [hx1] at hx
    simp only [DataW.slice.injEq] at hx
    have e1 : zs.take len = l.map fun b => (b.toNat : Int) := by
      have h1 := hx.1
      simp only [lits] at h1
      have h2 : (zs.take len).map (fun n => (DataW.lit (.int .u8 n) : DataW Unit)) = (l.map fun b => (b.toNat : Int)).map (fun n => (DataW.lit (.int .u8 n) : DataW Unit)) := by rw [h1]; simp
      exact List.map_inj_right (fun a b h => by simpa using h) |>.1 h2
    have hlen : len = l.length := by
      have h1 := congrArg List.length e1
      simp at h1
      have h2 : zs.drop len = [] := by
        have h3 := hx.2
        simp only [lits] at h3
        simpa using h3
      have h4 := congrArg List.length h2
      simp at h4
      have h5 : zs.length ≥ len := by rw [hz]; split <;> omega
      omega
    have hpos : 0 < l.length := List.length_pos_iff.2 hne
    obtain ⟨b, off, spot⟩ := a
    have hzl : l.length ≤ zs.length := by
      have h5 : zs.length ≥ len := by rw [hz]; split <;> omega
      omega
    have hc0 := hcell 0 (by omega)
    have hspot : spot = none := by simpa [Addr.add] using World.cell?_spot hc0
    subst hspot
    refine ⟨b, off, cap, ?_, fun i hi => ?_⟩
    · rw [hv r]
      have : (cs.drop r)[0]? = some (.slice (some ⟨b, off, none⟩) len cap) := by
        cases hd' : cs.drop r with
        | nil => rw [hd'] at hcs; simp at hcs
        | cons y ys => rw [hd'] at hcs; simp at hcs; rw [hcs]; rfl
      rw [List.getElem?_drop] at this
      simpa [hlen] using this
    · have h1 := hcell i (by omega)
      have h2 : zs.getD i 0 = (l[i].toNat : Int) := by
        have h3 : (zs.take len)[i]? = (l.map fun b => (b.toNat : Int))[i]? := by rw [e1]
        rw [List.getElem?_take] at h3
        simp [hlen, hi] at h3
        have hiz : i < zs.length := by omega
        simp [hiz] at h3 ⊢
        exact h3
      rw [h2] at h1
      by_cases hi0 : i = 0
      · subst hi0; simpa [Addr.add] using h1
      · simpa [Addr.add, hi0] using h1

theorem num_of {W : World} {cs : List Value} {m : Nat} {sp : Nat → Bool} {hd : Bool} {enc : TypeId × Value → Unit} {r g : Nat} {n : Int} {x : DataW Unit × List MemPlace}
    (hv : ∀ i, W.cell? ⟨g, i, none⟩ = cs[i]?) (h : DataW.trod enc Tryd.prog W 0 sp hd m 24 ((cs.drop r).take 1) = some x) (hx : x.1 = .lit (.int .u8 n)) : W.cell? ⟨g, r, none⟩ = some (.int .u8 n) := by
  obtain ⟨k, e1, e2, _⟩ := DataW.trod_int Tryd.underlying24 h
  rw [e2] at hx
  have hk : k = n := by simpa using hx
  subst hk
  rw [hv r]
  cases hd' : cs.drop r with
  | nil => rw [hd'] at e1; simp at e1
  | cons y ys =>
    rw [hd'] at e1
    simp at e1
    have : (cs.drop r)[0]? = some (.int .u8 k) := by rw [hd', e1]; rfl
    rw [List.getElem?_drop] at this
    simpa using this

theorem of_laid {W : World} (h : laidMetH Tryd.prog laid2 W) : Laid W := by
  rw [MakeChecks.laidMetH_plain _ _ _ (by kernel_rfl)] at h
  obtain ⟨ps, ⟨g0, t0, cs0, f0, p0, q0, hg0, ht0, hv0, hd0, ⟨g1, t1, cs1, f1, p1, q1, hg1, ht1, hv1, hd1, _, _⟩, _⟩, _, _⟩ := h
  obtain rfl := Option.some.inj (gMay.symm.trans hg0)
  obtain rfl := Option.some.inj (gNext.symm.trans hg1)
  obtain rfl := Option.some.inj (tMay.symm.trans ht0)
  obtain rfl := Option.some.inj (tNext.symm.trans ht1)
  have c22 : Tryd.prog.cellsOf 22 = 1 := by kernel_rfl
  have c24 : Tryd.prog.cellsOf 24 = 1 := by kernel_rfl
  have k0 : ∀ i, W.cell? ⟨1, i, none⟩ = cs0.toList[i]? := fun i => by
    have := World.var?_cell hg0 hv0 i; simpa using this
  have k1 : ∀ i, W.cell? ⟨0, i, none⟩ = cs1.toList[i]? := fun i => by
    have := World.var?_cell hg1 hv1 i; simpa using this
  obtain ⟨xs, m0, rfl, hx0, _, hn0, hel0⟩ := DataW.trod_array Tryd.underlying50 hd0
  obtain ⟨ys, m1, rfl, hx1, _, hn1, hel1⟩ := DataW.trod_array Tryd.underlying48 hd1
  simp only [c22, Nat.mul_one] at hel0
  simp only [c24, Nat.mul_one] at hel1
  simp only [Prod.mk.injEq] at hx0 hx1
  match xs, hn0, hx0, hel0 with
  | [x0, x1, x2], _, hx0, hel0 =>
    match ys, hn1, hx1, hel1 with
    | [y0, y1, y2, y3, y4, y5, y6, y7, y8], _, hx1, hel1 =>
      have e0 := hx0.1
      have e1 := hx1.1
      unfold Rows.laid_salesroom_phases_may at e0
      unfold Rows.laid_salesroom_phases_next at e1
      simp only [List.map_cons, List.map_nil, DataW.agg.injEq, List.cons.injEq, and_true] at e0 e1
      refine ⟨⟨num_of k1 (hel1 6 (by decide)) e1.2.2.2.2.2.2.1.symm, num_of k1 (hel1 7 (by decide)) e1.2.2.2.2.2.2.2.1.symm, num_of k1 (hel1 8 (by decide)) e1.2.2.2.2.2.2.2.2.symm⟩, ?_, ?_, ?_⟩
      · exact row_of (by simp) k0 (hel0 0 (by decide)) e0.1.symm
      · exact row_of (by simp) k0 (hel0 1 (by decide)) e0.2.1.symm
      · exact row_of (by simp) k0 (hel0 2 (by decide)) e0.2.2.symm

end Go.Proofs.YteonifhncpnjiaaDoor
