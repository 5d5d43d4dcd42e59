/- A book of four kinds is filled, and grown: what stands between; no program in sight but the types. -/
import Derived.Test.YthadgnaaipdpaaaGreatDoorKBs
namespace Go.Proofs.YthadgnaaipdpaaaGreatDoor
open Go.RowKit
set_option linter.unusedVariables false
set_option linter.unusedSimpArgs false
set_option maxRecDepth 100000

/-- What growing touches: the lists' own blocks, and the row of them. -/
def GS (L : List Hl) (bo : Option Addr) (k : Nat) : Prop := LS L k ∨ bo = some ⟨k, 0, none⟩
structure Fs (F : Nat) (w0 w : World) (B bk N : Nat) (bs : Kd → Value) (H : Kd → List Hl) (done : Kd → Prop) : Prop where
  below : Below B w0 w
  book : Bk w B bk N bs H
  size : F ≤ w.heap.size
  low : ∀ κ k, LS (H κ) k → k < F
  row : ∀ κ k, (bs κ).ownBlock = some k → k < F
  fill : ∀ κ, done κ → ∀ i (hi : i < (H κ).length), HFill κ F w (H κ)[i].l (H κ)[i].m
theorem Fs.start {w : World} {B bk N : Nat} {bs : Kd → Value} {H : Kd → List Hl} (h : Bk w B bk N bs H) : Fs w.heap.size w w B bk N bs H (fun _ => False) :=
  ⟨Below.refl _ _, h, Nat.le_refl _, fun κ k hk => by
    obtain ⟨cur, hc, _⟩ := (h.part κ).ls hk
    exact lt_of_heap hc, fun κ k hk => ((h.part κ).row.lt k hk).2, fun κ h => h.elim⟩
theorem Fs.fills {F : Nat} {w0 w w' : World} {B bk N : Nat} {bs : Kd → Value} {H : Kd → List Hl} {done : Kd → Prop} (h : Fs F w0 w B bk N bs H done) (κ : Kd) (ht : Touch (LS (H κ)) w w') (hp : Part κ w' B (bs κ) (H κ)) (hf : ∀ i (hi : i < (H κ).length), HFill κ F w' (H κ)[i].l (H κ)[i].m) :
    Fs F w0 w' B bk N bs H (fun k => k = κ ∨ done k) := by
  have hty : ∀ k, LS (H κ) k → ∃ C : Array Value × Nat × Nat, w.heap[k]? = some (.cells C.1 κ.el C.2) ∧ B ≤ k := fun k hk => (h.book.part κ).ls hk
  have hB : ∀ k, k < B → ¬ LS (H κ) k := fun k hk e => by obtain ⟨_, _, h2⟩ := hty k e; omega
  have hbk : Bk w' B bk N bs H := by
    have := h.book.others (κ := κ) ht (fun k hk => by obtain ⟨cur, hc, _⟩ := hty k hk; exact ⟨_, _, _, hc, .inl rfl⟩) rfl hp
    rwa [updK_same] at this
  refine ⟨h.below.trans (ht.below h.book.lt hB), hbk, Nat.le_trans h.size ht.size, h.low, h.row, fun κ' hd i hi => ?_⟩
  rcases Kd.dec κ' κ with e | e
  · subst e; exact hf i hi
  · rcases hd with hd | hd
    · exact absurd hd e
    · exact (h.fill κ' hd i hi).touch ht (fun g hg hs => by
        obtain ⟨cur, hc, _⟩ := ((h.book.part κ').ok i hi).block hg
        obtain ⟨cur2, hc2, _⟩ := hty g hs
        exact ty_ne hc hc2 ((κ'.types κ).2.2.2 e).2 rfl) (fun v hv => hv.touch ht (fun k hk => h.low κ k hk))

structure GSt (F : Nat) (w0 w : World) (B bk N : Nat) (bs : Kd → Value) (H : Kd → List Hl) (done : Kd → Prop) : Prop where
  below : Below B w0 w
  book : Bk w B bk N bs H
  size : F ≤ w.heap.size
  low : ∀ κ k, LS (H κ) k → k < F
  row : ∀ κ k, (bs κ).ownBlock = some k → k < F
  fill : ∀ κ i (hi : i < (H κ).length), HFill κ F w (H κ)[i].l (H κ)[i].m
  small : ∀ κ i (hi : i < (H κ).length), (H κ)[i].l.n ≤ 100000000
  long : ∀ κ, done κ → ∀ i (hi : i < (H κ).length), HFill κ F w (H κ)[i].g (H κ)[i].m ∧ (H κ)[i].g.n = (H κ)[i].l.n + 40 ∧ ∀ k, (H κ)[i].g.a = some ⟨k, 0, none⟩ → (H κ)[i].l.a = some ⟨k, 0, none⟩ ∨ F ≤ k
theorem GSt.start {F : Nat} {w0 w : World} {B bk N : Nat} {bs : Kd → Value} {H : Kd → List Hl} {done : Kd → Prop} (h : Fs F w0 w B bk N bs H done) (hd : ∀ κ, done κ) (hsm : ∀ κ i (hi : i < (H κ).length), (H κ)[i].l.n ≤ 100000000) : GSt F w0 w B bk N bs H (fun _ => False) :=
  ⟨h.below, h.book, h.size, h.low, h.row, fun κ => h.fill κ (hd κ), hsm, fun κ h => h.elim⟩
theorem GSt.after {F : Nat} {w0 w w' : World} {B bk N : Nat} {bs : Kd → Value} {H : Kd → List Hl} {done : Kd → Prop} (h : GSt F w0 w B bk N bs H done) (hb : Below w.heap.size w w') : GSt F w0 w' B bk N bs H done :=
  ⟨h.below.trans (hb.mono h.book.lt), h.book.below hb, Nat.le_trans h.size hb.size, h.low, h.row, fun κ i hi => (h.fill κ i hi).below hb, h.small, fun κ hd i hi => ⟨(h.long κ hd i hi).1.below hb, (h.long κ hd i hi).2⟩⟩
theorem GSt.grows {F : Nat} {w0 w w' : World} {B bk N : Nat} {bs : Kd → Value} {H : Kd → List Hl} {done : Kd → Prop} (h : GSt F w0 w B bk N bs H done) (κ : Kd) {bo : Option Addr} {bc : Nat} (hbs : bs κ = .slice bo (H κ).length bc) (ht : Touch (GS (H κ) bo) w w') {L : List Hl} (hl : L.length = (H κ).length)
    (hs : ∀ i (hi : i < L.length) (hi' : i < (H κ).length), L[i].l = (H κ)[i].l ∧ L[i].m = (H κ)[i].m) (hp : Part κ w' B (.slice bo (H κ).length bc) L) (hg : Grown κ F w w' L (H κ).length) :
    GSt F w0 w' B bk N bs (updK H κ L) (fun k => k = κ ∨ done k) := by
  have hrow : ∀ k, bo = some ⟨k, 0, none⟩ → B ≤ k ∧ ∃ cur, w.heap[k]? = some (.cells cur κ.hd) := fun k hk => by
    have hr := (h.book.part κ).row
    rw [hbs] at hr
    subst hk
    exact ⟨(hr.lt k rfl).1, owns_block hr rfl⟩
  have hty : ∀ k, GS (H κ) bo k → ∃ cur t fz, w.heap[k]? = some (.cells cur t fz) ∧ (t = κ.el ∨ t = κ.hd) := fun k hk => by
    rcases hk with hk | hk
    · obtain ⟨cur, hc, _⟩ := (h.book.part κ).ls hk
      exact ⟨_, _, _, hc, .inl rfl⟩
    · obtain ⟨_, cur, hc⟩ := hrow k hk
      exact ⟨_, _, _, hc, .inr rfl⟩
  have hB : ∀ k, k < B → ¬ GS (H κ) bo k := fun k hk e => by
    rcases e with e | e
    · obtain ⟨_, _, h2⟩ := (h.book.part κ).ls e; omega
    · have := (hrow k e).1; omega
  have hF : ∀ k, GS (H κ) bo k → k < F := fun k hk => by
    rcases hk with hk | hk
    · exact h.low κ k hk
    · exact h.row κ k (by rw [hbs, hk]; rfl)
  have hbk : Bk w' B bk N bs (updK H κ L) := h.book.others (κ := κ) ht hty hbs.symm hp
  have hne : ∀ κ', κ' ≠ κ → ∀ g (cur : Array Value × Nat × Nat), w.heap[g]? = some (.cells cur.1 κ'.el cur.2) → ¬ GS (H κ) bo g := fun κ' e g cur hc hs => by
    obtain ⟨cur2, t, fz, hc2, ht2⟩ := hty g hs
    have q1 := κ'.types κ
    have q2 := κ.types κ'
    rcases ht2 with ht2 | ht2
    · exact ty_ne hc hc2 (by rw [ht2]; exact (q1.2.2.2 e).2) rfl
    · exact ty_ne hc hc2 (by rw [ht2]; exact Ne.symm q2.1) rfl
  have key : ∀ κ', κ' ≠ κ → updK H κ L κ' = H κ' := fun κ' e => updK_ne _ _ _ _ e
  refine ⟨h.below.trans (ht.below h.book.lt hB), hbk, Nat.le_trans h.size ht.size, fun κ' k hk => ?_, h.row, fun κ' i hi => ?_, fun κ' i hi => ?_, fun κ' hd i hi => ?_⟩
  · rcases Kd.dec κ' κ with e | e
    · subst e
      rw [updK_self] at hk
      obtain ⟨i, hi, e⟩ := hk
      exact (hg.low i hi k e).2
    · rw [key κ' e] at hk
      exact h.low κ' k hk
  · rcases Kd.dec κ' κ with e | e
    · subst e
      have e2 := updK_self H κ' L
      revert hi
      rw [e2]
      intro hi
      exact hg.lists i hi
    · revert hi
      rw [key κ' e]
      intro hi
      exact (h.fill κ' i hi).touch ht (fun g hg2 hs => by
        obtain ⟨cur, hc, _⟩ := ((h.book.part κ').ok i hi).block hg2
        exact hne κ' e g _ hc hs) (fun v hv => hv.touch ht hF)
  · rcases Kd.dec κ' κ with e | e
    · subst e
      revert hi
      rw [updK_self]
      intro hi
      rw [(hs i hi (by omega)).1]
      exact h.small κ' i (by omega)
    · revert hi
      rw [key κ' e]
      intro hi
      exact h.small κ' i hi
  · rcases Kd.dec κ' κ with e | e
    · subst e
      revert hi
      rw [updK_self]
      intro hi
      obtain ⟨g1, g2, g3⟩ := hg.longs i hi (by omega)
      refine ⟨g1, g2, fun k hk => ?_⟩
      rcases g3 k hk with g4 | g4
      · exact .inl g4
      · exact .inr (Nat.le_trans h.size g4)
    · rcases hd with hd | hd
      · exact absurd hd e
      · revert hi
        rw [key κ' e]
        intro hi
        obtain ⟨l1, l2, l3⟩ := h.long κ' hd i hi
        refine ⟨l1.touch ht (fun g hg2 hs => ?_) (fun v hv => hv.touch ht hF), l2, l3⟩
        rcases l3 g hg2 with l4 | l4
        · obtain ⟨cur, hc, _⟩ := ((h.book.part κ').ok i hi).block l4
          exact hne κ' e g _ hc hs
        · have := hF g hs
          omega

end Go.Proofs.YthadgnaaipdpaaaGreatDoor
