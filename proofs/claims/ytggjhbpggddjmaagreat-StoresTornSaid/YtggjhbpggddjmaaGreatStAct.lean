/- Layer 20: one act on a store; two stores told alike; conditions: those typed. -/
import Derived.Test.YtggjhbpggddjmaaGreatStMktP
import Derived.Test.YtggjhbpggddjmaaGreatStOpn
import Derived.Test.YtggjhbpggddjmaaGreatSameR
import Derived.Test.YtggjhbpggddjmaaGreatStGrt
namespace Go.Proofs.YtggjhbpggddjmaaGreat
open Go.RowKit
set_option linter.unusedVariables false
set_option linter.unusedSimpArgs false

theorem set_all (bs bd bl : Nat) (x : StA) (c : StC) (D : Dsk) (who : Int) (sq : Nat) (st : Bool) (a : Option Addr) (n cap : Nat) (l : List Int) (k : Int) (w : World) (h : IsStore w bs bd bl x c D) (hI : IsI w a n cap l) (hsq : sq < 4294967296) (hs : c.s.length ≤ 1000) (hr : c.r.length ≤ 1000000) (hk : D.fine k) (hk2 : k ≤ 1000000000000000) (hlt : ∀ i, i < c.s.length → (D.get ((12 * (2 + i) : Nat) : Int)).1 < 4294967296) :
    Calls Tryz.prog 13 #[.pointer (some ⟨bs, 0, none⟩), .int .i64 who, .agg #[.int .u32 sq, .bool st, .slice a n cap]] w fun e w' => e = .returned (.int .i64 (setD c.s.length c.r.length D who ⟨sq, st, l⟩).1) ∧ Touch (fun k => k = bd ∨ k = bl) w w' ∧ IsDisk w' bd bl (setD c.s.length c.r.length D who ⟨sq, st, l⟩).2 := by
  by_cases hw : who < 0 ∨ (c.s.length : Int) ≤ who
  · rw [setD_bad hw]
    refine (set_bad bs bd bl x c D who sq st a n cap w h hw).mono ?_
    rintro e w' ⟨rfl, hb⟩
    exact ⟨rfl, Touch.of_below hb, h.disk.touch (Touch.of_below (S := fun _ => False) hb) id id⟩
  · obtain ⟨i, rfl⟩ := Int.eq_ofNat_of_zero_le (show 0 ≤ who by omega)
    exact set_ok bs bd bl x c D i sq st a n cap l k w h hI hsq (by omega) hs hr hk hk2 (hlt i (by omega))
theorem turn_keep {c : StC} {D : Dsk} {j : Nat} (h : StInv c D j) (hl : D.left = -1) (q : Nat) (l : List Int) : StInv c (turnD c.s.length D q l).2 (j + 1) ∧ (turnD c.s.length D q l).2.left = -1 := by
  obtain ⟨e, D', h1, h2, h3, h4⟩ := h.turn q l (free_room h.blown hl 2)
  rw [h1]
  refine ⟨h2, ?_⟩
  rcases h4 with ⟨_, _, _, _, h6⟩ | ⟨_, rfl, _⟩
  · exact h6 hl
  · exact hl

/-- What Market tells, in plain words. -/
def mktR (c : StC) (D : Dsk) : MkC × Int := if ordE c.s.length D ≠ 0 then (⟨[], [], []⟩, ordE c.s.length D) else if mktB (mktC c D) = true then (mktC c D, 0) else (⟨[], [], []⟩, 4)
def MkA.zero : MkA := ⟨none, 0, 0, none, 0, 0, [], none, 0, 0⟩
theorem IsMk.zero (w : World) (P : Nat → Prop) : IsMk w P MkA.zero ⟨[], [], []⟩ :=
  ⟨⟨IsI.nil _, fun b off ha => by cases ha⟩, ⟨rfl, Nat.le_refl _, by decide, IIv.nil _ _, .inl rfl⟩, ⟨IsI.nil _, fun b off ha => by cases ha⟩⟩
theorem MktQ.is {w w' : World} {c : StC} {D : Dsk} {e : Ending} (h : MktQ w c D e w') : ∃ x : MkA, e = .returned (.tuple #[.agg x.cells.toArray, .int .i64 (mktR c D).2]) ∧ IsMk w' (fun k => w.heap.size ≤ k) x (mktR c D).1 := by
  rcases h with ⟨h1, rfl⟩ | ⟨h1, h2, rfl⟩ | ⟨h1, h2, x, rfl, h3⟩
  · have e1 : mktR c D = (⟨[], [], []⟩, ordE c.s.length D) := if_pos h1
    rw [e1]; exact ⟨MkA.zero, rfl, IsMk.zero _ _⟩
  · have e1 : mktR c D = (⟨[], [], []⟩, 4) := by unfold mktR; rw [if_neg (by omega), if_neg (by rw [h2]; decide)]
    rw [e1]; exact ⟨MkA.zero, rfl, IsMk.zero _ _⟩
  · have e1 : mktR c D = (mktC c D, 0) := by unfold mktR; rw [if_neg (by omega), if_pos h2]
    rw [e1]; exact ⟨x, rfl, h3⟩
theorem mktR_eq {c : StC} {D D' : Dsk} (hp : phD c.s.length D' = phD c.s.length D) (hr : ∀ i, i < c.s.length → rcD c.r.length D' i = rcD c.r.length D i) : mktR c D' = mktR c D := by
  have e1 : ordE c.s.length D' = ordE c.s.length D := by unfold ordE; rw [hp]
  have e2 : ordL c.s.length D' = ordL c.s.length D := by unfold ordL; rw [hp]
  have e3 : bidsK c.r.length D' c.s.length = bidsK c.r.length D c.s.length := List.map_congr_left fun i hi => by rw [hr i (List.mem_range.1 hi)]
  have e4 : mktC c D' = mktC c D := by unfold mktC; rw [e2, e3]
  unfold mktR
  rw [e1, e4]

/-- Two stores of one config, on two disks. -/
structure TwoS (w0 : World) (c : StC) (C : Obj) (bs bd bl : Nat) (y : StA) (D : Dsk) (bs2 cd cl : Nat) (y2 : StA) (D2 : Dsk) (W : World) : Prop where
  st : IsStore W bs bd bl y c D
  st2 : IsStore W bs2 cd cl y2 c D2
  cfg : W.heap[w0.heap.size]? = some C
  bel : Below w0.heap.size w0 W
theorem TwoS.below {w0 W W' : World} {c : StC} {C : Obj} {bs bd bl : Nat} {y : StA} {D : Dsk} {bs2 cd cl : Nat} {y2 : StA} {D2 : Dsk} (h : TwoS w0 c C bs bd bl y D bs2 cd cl y2 D2 W) (hb : Below W.heap.size W W') : TwoS w0 c C bs bd bl y D bs2 cd cl y2 D2 W' :=
  ⟨h.st.below hb, h.st2.below hb, below_heap hb h.cfg (lt_of_heap h.cfg), h.bel.trans (hb.mono h.bel.size)⟩
/-- A store between two acts. -/
structure OneS (w0 : World) (c : StC) (C : Obj) (bs bd bl : Nat) (y : StA) (D : Dsk) (j : Nat) (W : World) : Prop where
  st : IsStore W bs bd bl y c D
  inv : StInv c D j
  left : D.left = -1
  cfg : W.heap[w0.heap.size]? = some C
  bel : Below w0.heap.size w0 W
theorem OneS.below {w0 W W' : World} {c : StC} {C : Obj} {bs bd bl : Nat} {y : StA} {D : Dsk} {j : Nat} (h : OneS w0 c C bs bd bl y D j W) (hb : Below W.heap.size W W') : OneS w0 c C bs bd bl y D j W' :=
  ⟨h.st.below hb, h.inv, h.left, below_heap hb h.cfg (lt_of_heap h.cfg), h.bel.trans (hb.mono h.bel.size)⟩
/-- A record set, in a store. -/
theorem OneS.set {w0 W : World} {c : StC} {C : Obj} {bs bd bl : Nat} {y : StA} {D : Dsk} {j : Nat} (h : OneS w0 c C bs bd bl y D j W) (hB : ∀ k, k ≤ w0.heap.size → ¬ (k = bd ∨ k = bl)) (hj : j ≤ 10000000000000) (who : Int) (r : RcV) (hr : RcOk w0 r) :
    Calls Tryz.prog 13 #[.pointer (some ⟨bs, 0, none⟩), .int .i64 who, .agg #[.int .u32 r.sq, .bool r.st, .slice r.a r.n r.c]] W fun e w' => e = .returned (.int .i64 (setD c.s.length c.r.length D who r.r).1) ∧ OneS w0 c C bs bd bl y (setD c.s.length c.r.length D who r.r).2 (j + 1) w' := by
  have h8 := h.inv.n8
  refine (set_all bs bd bl y c D who r.sq r.st r.a r.n r.c r.l (6 * (j : Int)) W h.st (hr.i.below h.bel) hr.sq (by omega) (by have := h.inv.may.r.2.1; omega) h.inv.fine (by omega) (fun i hi => h.inv.ltR i hi)).mono ?_
  rintro e w' ⟨rfl, ht, hd⟩
  obtain ⟨p1, p2, p3⟩ := set_keep h.inv h.left who r.r hr.sq
  exact ⟨rfl, h.st.put ht hd, p1, p2, ht.heap h.cfg (hB _ (Nat.le_refl _)), h.bel.trans (ht.below h.bel.size (fun k hk => hB k (Nat.le_of_lt hk)))⟩
/-- A phase turned, in a store. -/
theorem OneS.turn {w0 W : World} {c : StC} {C : Obj} {bs bd bl : Nat} {y : StA} {D : Dsk} {j : Nat} (h : OneS w0 c C bs bd bl y D j W) (hB : ∀ k, k ≤ w0.heap.size → ¬ (k = bd ∨ k = bl)) (hj : j ≤ 10000000000000) (p : Nat) (hp : p < 256) (a : Option Addr) (n cap : Nat) (l : List Int) (hI : IsI w0 a n cap l) (hl : l.length ≤ 17592186044416) :
    Calls Tryz.prog 11 #[.pointer (some ⟨bs, 0, none⟩), .int .u8 p, .slice a n cap] W fun e w' => e = .returned (.int .i64 (turnD c.s.length D p l).1) ∧ OneS w0 c C bs bd bl y (turnD c.s.length D p l).2 (j + 1) w' := by
  refine (turn_pub bs bd bl y c D p a n cap l (6 * (j : Int)) W h.st (hI.below h.bel) hl hp h.inv.fine (by omega) h.inv.lt12).mono ?_
  rintro e w' ⟨rfl, ht, hd⟩
  obtain ⟨p1, p2⟩ := turn_keep h.inv h.left p l
  exact ⟨rfl, h.st.put ht hd, p1, p2, ht.heap h.cfg (hB _ (Nat.le_refl _)), h.bel.trans (ht.below h.bel.size (fun k hk => hB k (Nat.le_of_lt hk)))⟩

end Go.Proofs.YtggjhbpggddjmaaGreat
