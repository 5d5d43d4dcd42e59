/- The package stores: Market; slices.Clone and Clip at numbers; conditions: those typed. -/
import Derived.Test.YtggjhbpggddjmaaGreatMChk
import Derived.Test.YtggjhbpggddjmaaGreatGStTw
import Derived.Test.YtggjhbpggddjmaaGreatStore1
namespace Go.Proofs.YtggjhbpggddjmaaGreat
open Go.RowKit
set_option linter.unusedVariables false
set_option linter.unusedSimpArgs false

theorem infoII : (Tryz.prog.info? 22).map (fun i => (i.zero, i.size, i.bytes)) = some (some (.slice none 0 0), 1, 24) := by kernel_rfl
theorem rowII : RowTy Tryz.prog 64 22 1 24 (.slice none 0 0) := ⟨Tryz.underlying64, infoII, rfl, by decide⟩
theorem IsI.at' {w : World} {a : Option Addr} {n c : Nat} {l : List Int} (h : IsI w a n c l) : At w a (icells l) := by
  obtain ⟨h1, h2, h3, ⟨h4, _⟩ | ⟨b, off, rfl, hlt, hc⟩⟩ := h
  · rw [h4]; exact At.nil _ _
  · refine At.of_cells fun i hi => ?_
    have hi' : i < l.length := by simpa [icells] using hi
    rw [hc i hi']; simp [icells]

set_option maxHeartbeats 400000 in
theorem iclone_any (a : Option Addr) (n c : Nat) (l : List Int) (w : World) (h : IsI w a n c l) (hm : l.length ≤ 17592186044416) :
    Calls Tryz.prog 48 #[.slice a n c] w fun e w' => ∃ a' c', e = .returned (.slice a' l.length c') ∧ Below w.heap.size w w' ∧ w'.ownsRow w.heap.size 3 1 (.slice a' l.length c') l.length (icells l) := by
  have hq : ∀ (w : World) (a : Option Addr) (n c : Nat), (binOp .eql 22 (.slice a n c) (.slice none 0 0)).run Tryz.prog w = .ok (.bool a.isNone) w := fun w a n c => Lib.run_eql_slice_nil w _ _ a n c 0 0 Tryz.underlying22
  obtain rfl := h.1
  cases a with
  | none =>
    have hnil : l = [] := by
      obtain ⟨_, _, _, ⟨h, _⟩ | ⟨_, _, h, _⟩⟩ := h
      · exact h
      · cases h
    subst hnil
    clear h
    go_enter Tryz.func48, Tryz.ntmps48
    go_wp2
    go_ret
    exact ⟨none, 0, rfl, Below.refl _ _, World.ownsRow_nil _ _ _ _⟩
  | some x =>
    have hat := (h.below ((Below.refl _ w).alloc (Nat.le_refl _) (.cells #[] 3))).at'
    have hone : ∀ v ∈ icells l, v.oneCell' = true := by intro v hv; simp [icells] at hv; obtain ⟨z, _, rfl⟩ := hv; rfl
    have hil : (icells l).length = l.length := by simp [icells]
    clear h
    go_enter Tryz.func48, Tryz.ntmps48
    go_wp2_with (at_builtin; refine wpList_append_any rowInt rfl _ _ rfl w.heap.size _ 0 [] rfl (World.ownsRow_made w #[] 0 (Nat.le_refl _) (Nat.zero_le _) rfl) (some x) l.length c (icells l) rfl (by rw [hil]; omega) hat hone (by unfold maxLen; omega) (by omega) (by simp) ?_; intro b2 c2 w2 hown2 hg2 hat2; simp only [Nat.zero_add, List.nil_append] at hown2 hat2)
    go_ret
    refine ⟨b2, c2, rfl, ((Below.refl _ w).alloc (Nat.le_refl _) _).grown hg2 (by simp) (fun j hj => ?_), hown2⟩
    have hj' : some w.heap.size = some j := hj
    cases hj'
    exact Nat.le_refl _

set_option maxHeartbeats 400000 in
theorem iclip_any (a : Option Addr) (n c : Nat) (w : World) (hn : n ≤ c) (hc : c ≤ maxLen) (ha : a = none → c = 0) :
    Calls Tryz.prog 47 #[.slice a n c] w fun e w' => e = .returned (.slice a n n) ∧ w = w' := by
  unfold maxLen at hc
  cases a with
  | none =>
    obtain rfl := ha rfl
    obtain rfl : n = 0 := by omega
    go_enter Tryz.func47, Tryz.ntmps47
    go_wp2
    go_ret
    exact ⟨rfl, rfl⟩
  | some x =>
    clear ha
    go_enter Tryz.func47, Tryz.ntmps47
    go_wp2
    go_ret
    exact ⟨rfl, rfl⟩
/-- Clip of what Clone made. -/
theorem owns_caps {w : World} {B e n : Nat} {a : Option Addr} {m c : Nat} {xs : List Value} (h : w.ownsRow B e 1 (.slice a m c) n xs) : m ≤ c ∧ c ≤ maxLen ∧ (a = none → c = 0) := by
  rcases h.2 with ⟨h, h0⟩ | ⟨g, cap, cur, h, _, _, hnc, hcm, _⟩
  · obtain ⟨h1, h2, h3⟩ := Value.slice.inj h
    exact ⟨by omega, by rw [h3]; decide, fun _ => h3⟩
  · obtain ⟨h1, h2, h3⟩ := Value.slice.inj h
    subst h1 h2 h3
    exact ⟨hnc, hcm, fun h => by cases h⟩

/-- The market that a store tells. -/
def bidsK (items : Nat) (D : Dsk) (n : Nat) : List (List Int) := (List.range n).map fun i => (rcD items D i).1.bid
theorem bidsK_succ (items : Nat) (D : Dsk) (n : Nat) : bidsK items D (n + 1) = bidsK items D n ++ [(rcD items D n).1.bid] := by simp [bidsK, List.range_succ]
theorem bidsK_length (items : Nat) (D : Dsk) (n : Nat) : (bidsK items D n).length = n := by simp [bidsK]
def mktC (c : StC) (D : Dsk) : MkC := ⟨c.r, bidsK c.r.length D c.s.length, ordL c.s.length D⟩
def MktQ (w : World) (c : StC) (D : Dsk) (e : Ending) (w' : World) : Prop :=
  (ordE c.s.length D ≠ 0 ∧ e = .returned (.tuple #[.agg #[.slice none 0 0, .slice none 0 0, .slice none 0 0], .int .i64 (ordE c.s.length D)])) ∨
  (ordE c.s.length D = 0 ∧ mktB (mktC c D) = false ∧ e = .returned (.tuple #[.agg #[.slice none 0 0, .slice none 0 0, .slice none 0 0], .int .i64 4])) ∨
  (ordE c.s.length D = 0 ∧ mktB (mktC c D) = true ∧ ∃ x : MkA, e = .returned (.tuple #[.agg x.cells.toArray, .int .i64 0]) ∧ IsMk w' (fun k => w.heap.size ≤ k) x (mktC c D))

theorem IsIp.both {P Q : Nat → Prop} {w : World} {a : Option Addr} {n c : Nat} {l : List Int} (h : IsIp w P a n c l) (k : IsIp w Q a n c l) : IsIp w (fun b => P b ∧ Q b) a n c l := ⟨h.1, fun b off ha hl => ⟨h.2 b off ha hl, k.2 b off ha hl⟩⟩
theorem IsBp.both {P Q : Nat → Prop} {w : World} {a : Option Addr} {n c : Nat} {l : List UInt8} (h : IsBp w P a n c l) (k : IsBp w Q a n c l) : IsBp w (fun b => P b ∧ Q b) a n c l := ⟨h.1, fun b off ha hl => ⟨h.2 b off ha hl, k.2 b off ha hl⟩⟩
theorem BBv.both {P Q : Nat → Prop} {w : World} {vs : List Value} {L : List (List UInt8)} (h : BBv w P vs L) (k : BBv w Q vs L) : BBv w (fun b => P b ∧ Q b) vs L :=
  ⟨h.1, fun i hi => by
    obtain ⟨a, n, c, h1, h2⟩ := h.2 i hi
    obtain ⟨a', n', c', k1, k2⟩ := k.2 i hi
    rw [h1] at k1
    cases k1
    exact ⟨a, n, c, h1, h2.both k2⟩⟩
theorem IsBBp.both {P Q : Nat → Prop} {w : World} {a : Option Addr} {n c : Nat} {vs : List Value} {L : List (List UInt8)} (h : IsBBp w P a n c vs L) (k : IsBBp w Q a n c vs L) : IsBBp w (fun b => P b ∧ Q b) a n c vs L := by
  obtain ⟨h1, h2, h3, h4, h5⟩ := h
  obtain ⟨_, _, _, k4, k5⟩ := k
  refine ⟨h1, h2, h3, h4.both k4, ?_⟩
  rcases h5 with h5 | ⟨b, off, rfl, hP, hlt, hc⟩
  · exact .inl h5
  · rcases k5 with k5 | ⟨b', off', e, hQ, _, _⟩
    · exact .inl k5
    · cases e; exact .inr ⟨b, off, rfl, ⟨hP, hQ⟩, hlt, hc⟩
theorem IsCf.both {P Q : Nat → Prop} {w : World} {x : StA} {c : StC} (h : IsCf w P x c) (k : IsCf w Q x c) : IsCf w (fun b => P b ∧ Q b) x c := ⟨h.r.both k.r, h.s.both k.s, h.a.both k.a, h.u.both k.u, h.t⟩
/-- All of a config lies below. -/
theorem IsBp.low {P : Nat → Prop} {w : World} {a : Option Addr} {n c : Nat} {l : List UInt8} (h : IsBp w P a n c l) : IsBp w (fun k => k < w.heap.size) a n c l := ⟨h.1, fun b off ha hl => h.1.ltSize b off ha hl⟩
theorem IsIp.low {P : Nat → Prop} {w : World} {a : Option Addr} {n c : Nat} {l : List Int} (h : IsIp w P a n c l) : IsIp w (fun k => k < w.heap.size) a n c l := ⟨h.1, fun b off ha hl => h.1.ltSize b off ha hl⟩
theorem IsBBp.low {P : Nat → Prop} {w : World} {a : Option Addr} {n c : Nat} {vs : List Value} {L : List (List UInt8)} (h : IsBBp w P a n c vs L) : IsBBp w (fun k => k < w.heap.size) a n c vs L := by
  obtain ⟨h1, h2, h3, h4, h5⟩ := h
  refine ⟨h1, h2, h3, ⟨h4.1, fun i hi => by obtain ⟨a, n, c, k1, k2⟩ := h4.2 i hi; exact ⟨a, n, c, k1, k2.low⟩⟩, ?_⟩
  rcases h5 with h5 | ⟨b, off, rfl, hP, hlt, hc⟩
  · exact .inl h5
  · exact .inr ⟨b, off, rfl, hlt, hlt, hc⟩
theorem IsCf.low {P : Nat → Prop} {w : World} {x : StA} {c : StC} (h : IsCf w P x c) : IsCf w (fun k => k < w.heap.size) x c := ⟨h.r.low, h.s.low, h.a.low, h.u.low, h.t⟩
/-- A store, when what lies behind its config is written. -/
theorem IsStore.put' {w w' : World} {S : Nat → Prop} {B bs bd bl : Nat} {x : StA} {c : StC} {D : Dsk} (h : IsStore w bs bd bl x c D) (hc : IsCf w (fun k => k < B) x c) (ht : Touch S w w') (hS : ∀ k, S k → B ≤ k) (h1 : bs < B) (h2 : bd < B ∧ bl < B) : IsStore w' bs bd bl x c D :=
  ⟨ht.heap h.cells (fun e => by have := hS _ e; omega), h.disk.touch ht (fun e => by have := hS _ e; omega) (fun e => by have := hS _ e; omega), ((h.cfg.both hc).touch ht (fun k hk e => by have := hS _ e; omega)).imp (fun k hk => hk.1), h.ne⟩
theorem NwI.touch' {B : Nat} {S : Nat → Prop} {w w' : World} {a : Option Addr} {l : List Int} (h : NwI B w a l) (ht : Touch S w w') (hs : ∀ k off, a = some ⟨k, off, none⟩ → ¬ S k) : NwI B w' a l := by
  obtain ⟨c, h⟩ := h
  refine ⟨c, owns_touch h ht (fun k hk => ?_)⟩
  cases a with
  | none => cases hk
  | some x =>
    have e : some x.block = some k := hk
    cases e
    rcases h.2 with ⟨h, _⟩ | ⟨g, _, _, h, _⟩
    · cases h
    · obtain ⟨h1, _⟩ := Value.slice.inj h
      cases h1
      exact hs _ _ rfl
theorem info_int1 : (Tryz.prog.info? 22).map (·.size) = some 1 := by kernel_rfl
theorem info_II1 : (Tryz.prog.info? 64).map (·.size) = some 1 := by kernel_rfl
/-- Between two rounds. -/
structure MkJ (w : World) (bs bd bl : Nat) (y : StA) (c : StC) (D : Dsk) (ra oa : Option Addr) (k : Nat) (W : World) : Prop where
  bel : Below w.heap.size w W
  st : IsStore W bs bd bl y c D
  cf : IsCf W (fun k => k < w.heap.size) y c
  m : ∃ v, W.heap[w.heap.size]? = some (.cells #[.slice ra c.r.length c.r.length, v, .slice oa (ordL c.s.length D).length (ordL c.s.length D).length] 66 (0, 0)) ∧ LstV (w.heap.size + 1) W v (bidsK c.r.length D k)
  r : NwI (w.heap.size + 1) W ra c.r
  o : NwI (w.heap.size + 1) W oa (ordL c.s.length D)

theorem nwI_apart {B B' e : Nat} {w : World} {a va : Option Addr} {l : List Int} {vn vc : Nat} {vs : List Value} (h : NwI B w a l) (ho : w.ownsRow B' e 1 (.slice va vn vc) vn vs) (he : e ≠ 3) : ∀ k off, a = some ⟨k, off, none⟩ → (Value.slice va vn vc).ownBlock ≠ some k := fun k off ha hk => by
  obtain ⟨c, h⟩ := h
  subst ha
  exact owns_ne ho h he k hk rfl
theorem mk_step {w wr w1 w2 : World} {bs bd bl : Nat} {y : StA} {c : StC} {D : Dsk} {ra oa va a b2 : Option Addr} {k vc c2 : Nat} {vs : List Value} {l : List Int} {o1 o2 : Obj} (hJ : MkJ w bs bd bl y c D ra oa k wr)
    (hB : bs < w.heap.size ∧ bd < w.heap.size ∧ bl < w.heap.size) (hra : ∀ k off, ra = some ⟨k, off, none⟩ → w.heap.size < k) (hoa : ∀ k off, oa = some ⟨k, off, none⟩ → w.heap.size < k)
    (hm : wr.heap[w.heap.size]? = some (.cells #[.slice ra c.r.length c.r.length, .slice va k vc, .slice oa (ordL c.s.length D).length (ordL c.s.length D).length] 66 (0, 0)))
    (ho : wr.ownsRow (w.heap.size + 1) 22 1 (.slice va k vc) k vs) (hn : IIn (w.heap.size + 1) wr vs (bidsK c.r.length D k)) (hb1 : Below wr.heap.size wr w1) (hnew : NwI wr.heap.size w1 a l) (hl : (rcD c.r.length D k).1.bid = l)
    (hg2 : ((w1.alloc o1).alloc o2).grownBy w2 (Value.slice va k vc).ownBlock) (hown2 : w2.ownsRow (w.heap.size + 1) 22 1 (.slice b2 (k + 1) c2) (k + 1) (vs ++ [.slice a l.length l.length])) :
    MkJ w bs bd bl y c D ra oa (k + 1) (w2.setCell ⟨w.heap.size, 1, none⟩ (.slice b2 (k + 1) c2)) ∧ w2.heap[w.heap.size]? = some (.cells #[.slice ra c.r.length c.r.length, .slice va k vc, .slice oa (ordL c.s.length D).length (ordL c.s.length D).length] 66 (0, 0)) := by
  have hwlt : w.heap.size < wr.heap.size := lt_of_heap hm
  have hvb : ∀ k', (Value.slice va k vc).ownBlock = some k' → w.heap.size ≤ k' ∧ k' < wr.heap.size ∧ k' ≠ w.heap.size := fun k' hk' => by
    obtain ⟨cur, hcur⟩ := owns_block ho hk'
    have := owns_base ho k' hk'
    exact ⟨by omega, lt_of_heap hcur, by omega⟩
  have t1 : Touch (fun j => (Value.slice va k vc).ownBlock = some j) wr w2 := (((Touch.of_below (S := fun j => (Value.slice va k vc).ownBlock = some j) hb1).alloc o1).alloc o2).grown hg2 (fun j hj => .inl hj)
  have hm2 := t1.heap hm (fun e => (hvb _ e).2.2 rfl)
  have t2 : Touch (fun j => j = w.heap.size) w2 (w2.setCell ⟨w.heap.size, 1, none⟩ (.slice b2 (k + 1) c2)) := (Touch.refl (fun j => j = w.heap.size) w2).setCell _ _ (.inl rfl)
  have tS : Touch (fun j => j = w.heap.size ∨ (Value.slice va k vc).ownBlock = some j) wr (w2.setCell ⟨w.heap.size, 1, none⟩ (.slice b2 (k + 1) c2)) := (t1.weaken (fun _ _ h => .inr h)).trans (t2.weaken (fun _ _ h => .inl h))
  have hSB : ∀ j, (j = w.heap.size ∨ (Value.slice va k vc).ownBlock = some j) → w.heap.size ≤ j := fun j hj => by
    rcases hj with rfl | hj
    · exact Nat.le_refl _
    · exact (hvb j hj).1
  have hint : ∀ j, (∃ cur, wr.heap[j]? = some (.cells cur 3 (0, 0))) → ¬ (j = w.heap.size ∨ (Value.slice va k vc).ownBlock = some j) := fun j ⟨cur, hc⟩ hj => by
    rcases hj with rfl | hj
    · rw [hm] at hc; exact absurd (Obj.cells.inj (Option.some.inj hc)).2.1 (by decide)
    · obtain ⟨cur2, hc2⟩ := owns_block ho hj
      rw [hc] at hc2; exact absurd (Obj.cells.inj (Option.some.inj hc2)).2.1 (by decide)
  have hm3 : (w2.setCell ⟨w.heap.size, 1, none⟩ (.slice b2 (k + 1) c2)).heap[w.heap.size]? = some (.cells #[.slice ra c.r.length c.r.length, .slice b2 (k + 1) c2, .slice oa (ordL c.s.length D).length (ordL c.s.length D).length] 66 (0, 0)) := by
    rw [heap_setCell_same _ _ 1 _ _ _ hm2]; rfl
  have hb2 : ∀ j, (Value.slice b2 (k + 1) c2).ownBlock = some j → ¬ (j = w.heap.size) := fun j hj e => by
    obtain ⟨cur, hc⟩ := owns_block hown2 hj
    rw [e, hm2] at hc
    exact absurd (Obj.cells.inj (Option.some.inj hc)).2.1 (by decide)
  have hnn : NwI (w.heap.size + 1) (w2.setCell ⟨w.heap.size, 1, none⟩ (.slice b2 (k + 1) c2)) a l := by
    have q1 : Touch (fun j => j = w.heap.size ∨ (Value.slice va k vc).ownBlock = some j) w1 (w2.setCell ⟨w.heap.size, 1, none⟩ (.slice b2 (k + 1) c2)) :=
      (((((Touch.refl (fun j => j = w.heap.size ∨ (Value.slice va k vc).ownBlock = some j) w1).alloc o1).alloc o2).grown hg2 (fun j hj => .inl (.inr hj))).trans (t2.weaken (fun _ _ h => .inl h)))
    exact (hnew.touch' q1 (fun j off e hj => by
      have := hnew.base j off e
      rcases hj with rfl | hj
      · omega
      · have := (hvb j hj).2.1; omega)).low hwlt
  refine ⟨⟨hJ.bel.trans (tS.below hJ.bel.size (fun j hj e => by have := hSB j e; omega)), hJ.st.put' hJ.cf tS hSB hB.1 hB.2, hJ.cf.touch tS (fun j hj e => by have := hSB j e; omega), ⟨_, hm3, ?_⟩, ?_, ?_⟩, hm2⟩
  · rw [bidsK_succ, hl]
    refine ⟨b2, c2, vs ++ [.slice a l.length l.length], by rw [List.length_append, bidsK_length]; rfl, ?_, (hn.touch tS (fun j _ hc => hint j hc)).snoc hnn⟩
    rw [List.length_append, bidsK_length]
    exact owns_touch hown2 t2 hb2
  · exact hJ.r.touch' tS (fun j off e hj => by
      rcases hj with rfl | hj
      · have := hra _ off e; omega
      · exact nwI_apart hJ.r ho (by decide) j off e hj)
  · exact hJ.o.touch' tS (fun j off e hj => by
      rcases hj with rfl | hj
      · have := hoa _ off e; omega
      · exact nwI_apart hJ.o ho (by decide) j off e hj)

set_option maxRecDepth 100000 in
set_option maxHeartbeats 8000000 in
theorem market_pub (bs bd bl : Nat) (x : StA) (c : StC) (D : Dsk) (w : World) (h : IsStore w bs bd bl x c D) (hs : c.s.length ≤ 1000) (hr : c.r.length ≤ 1000000) :
    Calls Tryz.prog 22 #[.pointer (some ⟨bs, 0, none⟩)] w fun e w' => MktQ w c D e w' ∧ Below w.heap.size w w' := by
  have hb0 : Below w.heap.size w (w.alloc (.cells #[.slice none 0 0, .slice none 0 0, .slice none 0 0] 66)) := (Below.refl _ _).alloc (Nat.le_refl _) _
  have hv := heap_new w (.cells #[.slice none 0 0, .slice none 0 0, .slice none 0 0] 66 (0, 0))
  have HST := Lib.hid (h.below hb0)
  have HBS : Hid (bs < w.heap.size ∧ bd < w.heap.size ∧ bl < w.heap.size) := Lib.hid ⟨lt_of_heap h.cells, h.lt.1, h.lt.2⟩
  have HCF := Lib.hid (h.cfg.low.below hb0)
  clear h
  go_enter Tryz.func22, Tryz.ntmps22
  go_wp2_with fail
  generalize w.alloc (.cells #[.slice none 0 0, .slice none 0 0, .slice none 0 0] 66) = w0 at hb0 hv HST HCF ⊢
  refine (order_pub bs bd bl x c D w0 HST.out).mono ?_; rintro e w1 ⟨oa, rfl, hb1, ho1⟩
  have HB1 := Lib.hid (hb0.trans (hb1.mono hb0.size))
  have v1 := below_heap hb1 hv (lt_of_heap hv)
  have HST1 := Lib.hid (HST.out.below hb1)
  have HCF1 := Lib.hid (HCF.out.below hb1)
  clear HCF
  have HCF := HCF1
  clear HCF1
  have hsz : w.heap.size < w0.heap.size := lt_of_heap hv
  have HO1 := Lib.hid (ho1.low (B' := w.heap.size + 1) hsz)
  have HOB : Hid (∀ k off, oa = some ⟨k, off, none⟩ → w.heap.size < k) := Lib.hid (fun k off e => Nat.lt_of_lt_of_le hsz (ho1.base k off e))
  clear hb0 hv hb1 HST ho1 hsz
  have V1 := Lib.hid v1
  have hoc : ordE c.s.length D = 0 ∨ ordE c.s.length D = 8 := by unfold ordE; split <;> simp
  rcases hoc with hoc | hoc
  case inr =>
    have HOC := Lib.hid hoc
    rw [hoc]
    clear hoc v1
    go_wp2_with (first
      | (refine wpList_store_at rfl 22 (.tmp 12) (.tmp 10) rfl w.heap.size 2 rfl (.slice oa (ordL c.s.length D).length (ordL c.s.length D).length) rfl rfl _ _ V1.out (by decide) info_int1 ?_; intro w2 ht2 hg2
         have hg2' : w2.heap[w.heap.size]? = some (.cells #[.slice none 0 0, .slice none 0 0, .slice oa (ordL c.s.length D).length (ordL c.s.length D).length] 66 (0, 0)) := hg2)
      | (refine wpList_store_whole rfl 66 (.tmp 2) (.tmp 15) rfl w.heap.size [.slice none 0 0, .slice none 0 0, .slice none 0 0] _ _ hg2' rfl rfl rfl info_mkt (mkt_one _ _ _ _ _ _ _ _ _) ?_; intro w4 ht4 hg4)
      | fail)
    refine bodyPost_ret (results_cell_tmp rfl _ _ w.heap.size 0 rfl [.slice none 0 0, .slice none 0 0, .slice none 0 0] _ (rangeAt_row hg4) Tryz.underlying66 rfl info_mkt) rfl ?_
    have HB2 := HB1.out.trans (ht2.below HB1.out.size (fun k hk e => by omega))
    exact ⟨.inl ⟨by rw [HOC.out]; decide, by rw [HOC.out]; rfl⟩, HB2.trans (ht4.below HB2.size (fun k hk e => by omega))⟩
  case inl =>
    have HOC := Lib.hid hoc
    rw [hoc]
    clear hoc v1
    go_wp2_with (first
      | (refine wpList_store_at rfl 22 (.tmp 12) (.tmp 10) rfl w.heap.size 2 rfl (.slice oa (ordL c.s.length D).length (ordL c.s.length D).length) rfl rfl _ _ V1.out (by decide) info_int1 ?_; intro w2 ht2 hg2
         have HG2 := Lib.hid (show w2.heap[w.heap.size]? = some (.cells #[.slice none 0 0, .slice none 0 0, .slice oa (ordL c.s.length D).length (ordL c.s.length D).length] 66 (0, 0)) from hg2)
         have HB2 := Lib.hid (HB1.out.trans (ht2.below HB1.out.size (fun k hk e => by omega)))
         have HST2 := Lib.hid (HST1.out.put' HCF.out ht2 (fun k hk => by omega) HBS.out.1 HBS.out.2)
         have HCF2 := Lib.hid (HCF.out.touch ht2 (fun k hk e => by omega))
         have HO2 := Lib.hid (HO1.out.touch' ht2 (fun k off e hk => by have := HOB.out k off e; omega))
         have f0 := HST2.out.f.1
         rw [HST2.out.rn.1] at f0
         clear ht2 hg2)
      | fail)
    have hir := HST2.out.cfg.r.1
    rw [HST2.out.rn.1] at hir
    refine (iclone_any x.ra c.r.length x.rc c.r w2 hir (by omega)).mono ?_; rintro e w3 ⟨ra, rc, rfl, hb3, hr3⟩
    have HR3 : Hid (NwI w2.heap.size w3 ra c.r) := Lib.hid ⟨rc, hr3⟩
    have HB3 := Lib.hid (HB2.out.trans (hb3.mono HB2.out.size))
    have HST3 := Lib.hid (HST2.out.below hb3)
    have HCF3 := Lib.hid (HCF2.out.below hb3)
    have HO3 := Lib.hid (HO2.out.below hb3)
    have G3 := Lib.hid (below_heap hb3 HG2.out (lt_of_heap HG2.out))
    have HCAP := Lib.hid (owns_caps hr3)
    have HW2 : Hid (w.heap.size < w2.heap.size) := Lib.hid (lt_of_heap HG2.out)
    have HRB : Hid (∀ k off, ra = some ⟨k, off, none⟩ → w.heap.size < k) := Lib.hid (fun k off e => Nat.lt_of_lt_of_le HW2.out (HR3.out.base k off e))
    clear HB1 HST1 HCF HO1 V1 hb3 hr3 hir f0 HB2 HST2 HCF2 HO2 HG2
    go_wp2_with fail
    refine (iclip_any ra c.r.length rc w3 HCAP.out.1 HCAP.out.2.1 HCAP.out.2.2).mono ?_; rintro e w4 ⟨rfl, rfl⟩
    have HMK : Hid (∀ w5, Touch (fun k => k = w.heap.size) w3 w5 → w5.heap[w.heap.size]? = some (.cells #[.slice ra c.r.length c.r.length, .slice none 0 0, .slice oa (ordL c.s.length D).length (ordL c.s.length D).length] 66 (0, 0)) → MkJ w bs bd bl x c D ra oa 0 w5 ∧ w5.cell? ⟨bs, 1, none⟩ = some (.slice x.sa c.s.length x.sc)) := Lib.hid (fun w5 ht5 hg5 => by
      have hj : MkJ w bs bd bl x c D ra oa 0 w5 :=
        ⟨HB3.out.trans (ht5.below HB3.out.size (fun k hk e => by omega)), HST3.out.put' HCF3.out ht5 (fun k hk => by omega) HBS.out.1 HBS.out.2, HCF3.out.touch ht5 (fun k hk e => by omega), ⟨.slice none 0 0, hg5, LstV.nil _ _⟩,
          (HR3.out.touch' ht5 (fun k off e hk => by have := HRB.out k off e; omega)).low HW2.out, HO3.out.touch' ht5 (fun k off e hk => by have := HOB.out k off e; omega)⟩
      have f1 := hj.st.f.2.1
      rw [hj.st.rn.2] at f1
      exact ⟨hj, f1⟩)
    clear HB3 HST3 HCF3 HO3 HR3 HCAP HW2
    have t0 : w3.cell? ⟨w.heap.size, 0, none⟩ = some (.slice none 0 0) := by rw [cell_of_block G3.out]; rfl
    have tf0 : w3.frozen? ⟨w.heap.size, 0, none⟩ = false := blk_free G3.out
    obtain ⟨hj, f1⟩ := HMK.out (w3.setCell ⟨w.heap.size, 0, none⟩ (.slice ra c.r.length c.r.length)) ((Touch.refl (fun k => k = w.heap.size) w3).setCell _ _ (.inl rfl)) (by rw [heap_setCell_same _ _ 0 _ _ _ G3.out]; rfl)
    have HJ := Lib.hid hj
    clear hj G3 HMK
    go_wp2_with fail
    generalize w3.setCell ⟨w.heap.size, 0, none⟩ (.slice ra c.r.length c.r.length) = w5 at HJ ⊢
    obtain ⟨N, hN⟩ : ∃ N, N = c.s.length := ⟨_, rfl⟩
    have HN := Lib.hid hN
    clear hN
    go_loopw [33] (fun i wr => ∃ k : Nat, k ≤ c.s.length ∧ i = .int .i64 k ∧ Hid (MkJ w bs bd bl x c D ra oa k wr)) (fun i _ => N - (intOf i).toNat)
    case atStart => exact ⟨0, Nat.zero_le _, rfl, HJ⟩
    case round =>
      clear HJ
      obtain ⟨k, hk, rfl, HJ⟩ := hrel
      by_cases hlt : k < c.s.length
      · have hlts : decide (k < c.s.length) = true := decide_eq_true hlt
        go_wp2_with fail
        refine (record_any bs bd bl x c D k wr HJ.out.st (by omega) hr).mono ?_; rintro e w1 ⟨a, rfl, hb1, hn1⟩
        obtain ⟨⟨⟨sq, st, l⟩, ok⟩, hrr⟩ : ∃ r, rcD c.r.length D k = r := ⟨_, rfl⟩
        rw [hrr] at hn1 ⊢
        dsimp only at hn1 ⊢
        obtain ⟨v, hm, va, vc, vs, hv, ho, hvn⟩ := HJ.out.m
        subst hv
        rw [bidsK_length] at ho hm
        have HL : Hid ((rcD c.r.length D k).1.bid = l) := Lib.hid (by rw [hrr])
        have HB1 := Lib.hid hb1
        have HN1 := Lib.hid hn1
        have HM := Lib.hid hm
        have HO := Lib.hid ho
        have HVN := Lib.hid hvn
        have m1 := below_heap hb1 hm (lt_of_heap hm)
        have HM1 := Lib.hid m1
        have c1 : w1.cell? ⟨w.heap.size, 1, none⟩ = some (.slice va k vc) := by rw [cell_of_block m1]; rfl
        have p1 := cell_alloc c1 (.cells #[.int .u32 (sq : Int), .bool st, .slice a l.length l.length] 41 (0, 0))
        have p2 : (w1.alloc (.cells #[.int .u32 (sq : Int), .bool st, .slice a l.length l.length] 41 (0, 0))).cell? ⟨w1.heap.size, 2, none⟩ = some (.slice a l.length l.length) := by rw [cell_of_block (heap_new w1 _)]; rfl
        have HAT : Hid (At ((w1.alloc (.cells #[.int .u32 (sq : Int), .bool st, .slice a l.length l.length] 41 (0, 0))).alloc (.cells #[.slice a l.length l.length] 22 (0, 0))) (some ⟨w1.heap.size + 1, 0, none⟩) [.slice a l.length l.length]) := Lib.hid (by
          have h := At.one (w1.alloc (.cells #[.int .u32 (sq : Int), .bool st, .slice a l.length l.length] 41 (0, 0))) (.slice a l.length l.length) 22
          rwa [show (w1.alloc (.cells #[.int .u32 (sq : Int), .bool st, .slice a l.length l.length] 41 (0, 0))).heap.size = w1.heap.size + 1 from by simp] at h)
        have HOW : Hid (((w1.alloc (.cells #[.int .u32 (sq : Int), .bool st, .slice a l.length l.length] 41 (0, 0))).alloc (.cells #[.slice a l.length l.length] 22 (0, 0))).ownsRow (w.heap.size + 1) 22 1 (.slice va k vc) k vs) := Lib.hid (((owns_below HO.out HB1.out).alloc _).alloc _)
        have HSZ : Hid (w.heap.size + 1 ≤ ((w1.alloc (.cells #[.int .u32 (sq : Int), .bool st, .slice a l.length l.length] 41 (0, 0))).alloc (.cells #[.slice a l.length l.length] 22 (0, 0))).heap.size) := Lib.hid (by have h1 := HB1.out.size; have h2 := HJ.out.bel.size; have h3 := lt_of_heap HM.out; simp; omega)
        clear hb1 hn1 hm ho hvn m1 hrr c1
        have hk1000 : k ≤ 1000 := by omega
        go_wp2_with (first
          | (at_builtin; refine wpList_append_any rowII rfl (.tmp 43) (.tmp 46) rfl (w.heap.size + 1) (.slice va k vc) k vs rfl HOW.out (some ⟨w1.heap.size + 1, 0, none⟩) 1 1 [.slice a l.length l.length] rfl rfl HAT.out (one_cell _ rfl) (by unfold maxLen; omega) (by omega) HSZ.out ?_; intro b2 c2 w2 hown2 hg2 hat2
             obtain ⟨hj2, hm2⟩ := mk_step HJ.out HBS.out HRB.out HOB.out HM.out HO.out HVN.out HB1.out HN1.out HL.out hg2 hown2
             have HJ2 := Lib.hid hj2
             have y1 : w2.cell? ⟨w.heap.size, 1, none⟩ = some (.slice va k vc) := (by rw [cell_of_block hm2]; rfl)
             have yf1 : w2.frozen? ⟨w.heap.size, 1, none⟩ = false := blk_free hm2
             clear hj2 hm2 hown2 hg2 hat2)
          | fail)
        go_roundw
        case rel => exact ⟨k + 1, by omega, by go_num, HJ2⟩
        case measure => have := HN.out; simp [intOf]; omega
      · have hkk : k = c.s.length := by omega
        subst hkk
        obtain ⟨v, hm, hl⟩ := HJ.out.m
        obtain ⟨va, vc, vs0, hv, ho, hvn⟩ := hl
        subst hv
        obtain ⟨vs, hII⟩ := LstV.isIIp ⟨va, vc, vs0, rfl, ho, hvn⟩
        rw [bidsK_length] at hm hII
        have HMK : Hid (IsMk wr (fun k => w.heap.size + 1 ≤ k) ⟨ra, c.r.length, c.r.length, va, c.s.length, vc, vs, oa, (ordL c.s.length D).length, (ordL c.s.length D).length⟩ (mktC c D)) := Lib.hid ⟨HJ.out.r.isIp, hII, HJ.out.o.isIp⟩
        have HM := Lib.hid hm
        have HB := Lib.hid HJ.out.bel
        have HCH := Lib.hid (mcheck_any (fun k => w.heap.size + 1 ≤ k) ⟨ra, c.r.length, c.r.length, va, c.s.length, vc, vs, oa, (ordL c.s.length D).length, (ordL c.s.length D).length⟩ (mktC c D) wr HMK.out (by show c.r.length ≤ _; omega))
        clear hII ho hvn hm HJ
        go_wp2_with (first
          | (refine wpList_load_mid rfl 66 (.tmp 2) rfl w.heap.size 0 rfl [.slice ra c.r.length c.r.length, .slice va c.s.length vc, .slice oa (ordL c.s.length D).length (ordL c.s.length D).length] _ (rangeAt_row HM.out) Tryz.underlying66 rfl info_mkt ?_)
          | fail)
        refine HCH.out.mono ?_; rintro e w1 ⟨rfl, hb1⟩
        have HB1 := Lib.hid (HB.out.trans (hb1.mono HB.out.size))
        have HM1 := Lib.hid (below_heap hb1 HM.out (lt_of_heap HM.out))
        have HMK1 := Lib.hid (HMK.out.below hb1)
        clear hb1 HCH HM HB HMK
        cases hmb : mktB (mktC c D) with
        | false =>
          have HMB := Lib.hid hmb
          clear hmb
          go_wp2_with (first
            | (refine wpList_store_whole rfl 66 (.tmp 2) (.tmp 53) rfl w.heap.size [.slice none 0 0, .slice none 0 0, .slice none 0 0] _ _ HM1.out rfl rfl rfl info_mkt (mkt_one _ _ _ _ _ _ _ _ _) ?_; intro w4 ht4 hg4)
            | fail)
          refine bodyPost_ret (results_cell_tmp rfl _ _ w.heap.size 0 rfl [.slice none 0 0, .slice none 0 0, .slice none 0 0] _ (rangeAt_row hg4) Tryz.underlying66 rfl info_mkt) rfl ?_
          exact ⟨.inr (.inl ⟨HOC.out, HMB.out, rfl⟩), HB1.out.trans (ht4.below HB1.out.size (fun k hk e => by omega))⟩
        | true =>
          have HMB := Lib.hid hmb
          clear hmb
          go_wp2_with (first
            | (refine wpList_load_mid rfl 66 (.tmp 2) rfl w.heap.size 0 rfl [.slice ra c.r.length c.r.length, .slice va c.s.length vc, .slice oa (ordL c.s.length D).length (ordL c.s.length D).length] _ (rangeAt_row HM1.out) Tryz.underlying66 rfl info_mkt ?_)
            | (refine wpList_store_whole rfl 66 (.tmp 2) (.tmp 54) rfl w.heap.size [.slice ra c.r.length c.r.length, .slice va c.s.length vc, .slice oa (ordL c.s.length D).length (ordL c.s.length D).length] _ _ HM1.out rfl rfl rfl info_mkt (mkt_one _ _ _ _ _ _ _ _ _) ?_; intro w4 ht4 hg4)
            | fail)
          refine bodyPost_ret (results_cell_tmp rfl _ _ w.heap.size 0 rfl [.slice ra c.r.length c.r.length, .slice va c.s.length vc, .slice oa (ordL c.s.length D).length (ordL c.s.length D).length] _ (rangeAt_row hg4) Tryz.underlying66 rfl info_mkt) rfl ?_
          refine ⟨.inr (.inr ⟨HOC.out, HMB.out, ⟨ra, c.r.length, c.r.length, va, c.s.length, vc, vs, oa, (ordL c.s.length D).length, (ordL c.s.length D).length⟩, rfl, ?_⟩), HB1.out.trans (ht4.below HB1.out.size (fun k hk e => by omega))⟩
          exact (HMK1.out.touch ht4 (fun k hk e => by omega)).imp (fun k hk => by omega)

end Go.Proofs.YtggjhbpggddjmaaGreat
