/- A book of four kinds, its lists' blocks known by a property; conditions: those typed. -/
import Derived.Test.YthadgnaaipdpaaaGreatDoorKBz
import Derived.Test.YthadgnaaipdpaaaGreatDoorKBKByte
namespace Go.Proofs.YthadgnaaipdpaaaGreatDoor
open Go.RowKit
set_option linter.unusedVariables false
set_option linter.unusedSimpArgs false
set_option maxRecDepth 100000

/-- A book in memory: so many lists at most, all their blocks with the property P. -/
def BkP (w : World) (B bk : Nat) (P : Nat → Prop) (c : Nat) : Prop := ∃ N bs H, Bk w B bk N bs H ∧ N ≤ c ∧ (∀ κ, (H κ).length ≤ c) ∧ (∀ κ i (hi : i < (H κ).length), (H κ)[i].l.n ≤ 100000000) ∧ ∀ κ k, LS (H κ) k → P k
theorem BkP.mono {w : World} {B bk : Nat} {P Q : Nat → Prop} {c d : Nat} (h : BkP w B bk P c) (hpq : ∀ k, P k → Q k) (hcd : c ≤ d) : BkP w B bk Q d := by
  obtain ⟨N, bs, H, h1, h2, h3, h4, h5⟩ := h
  exact ⟨N, bs, H, h1, Nat.le_trans h2 hcd, fun κ => Nat.le_trans (h3 κ) hcd, h4, fun κ k hk => hpq k (h5 κ k hk)⟩
theorem BkP.top {w : World} {B bk : Nat} {P : Nat → Prop} {c : Nat} (h : BkP w B bk P c) : BkP w B bk (fun k => k < w.heap.size) c := by
  obtain ⟨N, bs, H, h1, h2, h3, h4, h5⟩ := h
  exact ⟨N, bs, H, h1, h2, h3, h4, fun κ k hk => by obtain ⟨cur, hc, _⟩ := (h1.part κ).ls hk; exact lt_of_heap hc⟩
theorem BkP.touch {S : Nat → Prop} {w w' : World} {B bk : Nat} {P : Nat → Prop} {c : Nat} (h : BkP w B bk P c) (ht : Touch S w w') (hs : Other w S) : BkP w' B bk P c := by
  obtain ⟨N, bs, H, h1, h2, h3, h4, h5⟩ := h
  exact ⟨N, bs, H, h1.touch ht hs, h2, h3, h4, h5⟩
theorem BkP.below {w w' : World} {B bk : Nat} {P : Nat → Prop} {c : Nat} (h : BkP w B bk P c) (hb : Below w.heap.size w w') : BkP w' B bk P c := h.touch (Touch.of_below (S := fun _ => False) hb) (fun _ h => h.elim)
theorem BkP.lt {w : World} {B bk : Nat} {P : Nat → Prop} {c : Nat} (h : BkP w B bk P c) : B ≤ w.heap.size := by
  obtain ⟨N, bs, H, h1, _⟩ := h
  exact h1.lt
theorem BkP.start (w : World) (P : Nat → Prop) (B : Nat) (hB : B ≤ w.heap.size) : BkP (w.alloc (.cells (bookC 0 (fun _ => .slice none 0 0)) 54)) B w.heap.size P 0 :=
  ⟨0, _, fun _ => [], ⟨hB, heap_new _ _, fun κ => ⟨World.ownsRow_nil _ _ _ _, fun i hi => by simp at hi, fun i j hi => by simp at hi, fun i hi => by simp at hi, by simp⟩⟩, Nat.le_refl _, fun κ => by simp, fun κ i hi => by simp at hi, fun κ k hk => by obtain ⟨i, hi, _⟩ := hk; simp at hi⟩
/-- One more list of a kind. -/
theorem BkP.more {κ : Kd} {w' : World} {B bk N : Nat} {bs : Kd → Value} {H : Kd → List Hl} {P : Nat → Prop} {c : Nat} {x : Hd} (h2 : N ≤ c) (h3 : ∀ κ, (H κ).length ≤ c) (h4 : ∀ κ i (hi : i < (H κ).length), (H κ)[i].l.n ≤ 100000000) (h5 : ∀ κ k, LS (H κ) k → P k) (hn : x.n ≤ 100000000)
    (hb : Bk w' B bk (N + 1) bs (updK H κ (H κ ++ [⟨x, ⟨none, 0, 0⟩, N + 1⟩]))) : BkP w' B bk (fun k => P k ∨ x.a = some ⟨k, 0, none⟩) (c + 1) := by
  refine ⟨_, _, _, hb, by omega, fun κ' => ?_, fun κ' i hi => ?_, fun κ' k hk => ?_⟩
  · rcases Kd.dec κ' κ with e | e
    · subst e; rw [updK_self]; have := h3 κ'; simp; omega
    · rw [updK_ne _ _ _ _ e]; have := h3 κ'; omega
  · rcases Kd.dec κ' κ with e | e
    · subst e
      revert hi
      rw [updK_self]
      intro hi
      by_cases hil : i < (H κ').length
      · rw [List.getElem_append_left hil]; exact h4 κ' i hil
      · have : i = (H κ').length := by simp at hi; omega
        subst this
        rw [List.getElem_append_right (Nat.le_refl _)]
        simpa using hn
    · revert hi
      rw [updK_ne _ _ _ _ e]
      intro hi
      exact h4 κ' i hi
  · rcases Kd.dec κ' κ with e | e
    · subst e
      rw [updK_self] at hk
      obtain ⟨i, hi, e⟩ := hk
      by_cases hil : i < (H κ').length
      · rw [List.getElem_append_left hil] at e; exact .inl (h5 κ' k ⟨i, hil, e⟩)
      · have : i = (H κ').length := by simp at hi; omega
        subst this
        rw [List.getElem_append_right (Nat.le_refl _)] at e
        simp at e
        exact .inr e
    · rw [updK_ne _ _ _ _ e] at hk
      exact .inl (h5 κ' k hk)

theorem apart_p (w : World) (B bk : Nat) (P : Nat → Prop) (c : Nat) (h : BkP w B bk P c) :
    Calls Tryz.prog 24 #[.pointer (some ⟨bk, 0, none⟩)] w fun e w' => e = .returned (.bool true) ∧ Below B w w' := by
  obtain ⟨N, bs, H, h1, h2, h3, h4, h5⟩ := h
  exact apart_any w B bk N bs H h1 h4

theorem bytes_p (w : World) (B bk : Nat) (P : Nat → Prop) (c : Nat) (h : BkP w B bk P c) (x : Hd) (hx : HOk .byte w B x) (hn : x.n ≤ 100000000) (hap : ∀ g, x.a = some ⟨g, 0, none⟩ → ¬ P g) (hc : c < 1000000) :
    Calls Tryz.prog 18 #[.pointer (some ⟨bk, 0, none⟩), x.val] w fun e w' => e = .returned (.tuple #[]) ∧ Touch (BkS w B) w w' ∧ BkP w' B bk (fun k => P k ∨ x.a = some ⟨k, 0, none⟩) (c + 1) := by
  obtain ⟨N, bs, H, h1, h2, h3, h4, h5⟩ := h
  have h6 := h3 .byte
  have HK := keepByte_any w B bk N bs H h1 x hx (fun i hi g e e2 => hap g e2 (h5 .byte g ⟨i, hi, e⟩)) (by omega) (by omega)
  have HE := Lib.hid (fun (w' : World) (bs' : Kd → Value) (hb : Bk w' B bk (N + 1) bs' (updK H .byte (H .byte ++ [⟨x, ⟨none, 0, 0⟩, N + 1⟩]))) => BkP.more h2 h3 h4 h5 hn hb)
  clear h1 h2 h3 h4 h5 h6 hap hx hn hc
  go_enter Tryz.func18, Tryz.ntmps18
  go_wp2_with fail
  refine HK.mono ?_
  rintro e w1 ⟨rfl, t1, bs', b1⟩
  have HT := Lib.hid t1
  have HB := Lib.hid (HE.out w1 bs' b1)
  clear t1 b1 HK
  go_wp2_with fail
  go_end0
  exact ⟨rfl, HT.out, HB.out⟩

end Go.Proofs.YthadgnaaipdpaaaGreatDoor
