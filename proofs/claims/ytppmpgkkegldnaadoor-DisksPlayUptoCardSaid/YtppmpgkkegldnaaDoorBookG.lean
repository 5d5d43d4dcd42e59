/- A book grows its lists of bytes; conditions: those typed. -/
import Derived.Test.YtppmpgkkegldnaaDoorBookG0
namespace Go.Proofs.YtppmpgkkegldnaaDoor
open Go.RowKit
set_option linter.unusedVariables false
set_option linter.unusedSimpArgs false
set_option maxRecDepth 100000

theorem Bk.grown {W w : World} {B bk N : Nat} {bs : Value} {H : List Hl} (h : Bk W B bk N bs H) (j : Nat) (hj : j < H.length) {x : UInt8} {t : Nat} {a : Option Addr} {c : Nat} (hg : GrowSt W w B H[j].l x t a c) : Bk w B bk N bs H := by
  obtain ⟨h0, h1, h2, h3, _⟩ := hg
  have hu : ∀ k, H[j].l.a = some ⟨k, 0, none⟩ → ∃ cur, W.heap[k]? = some (.cells cur 5 (0, 0)) := fun k hk => by
    obtain ⟨cur, s, _⟩ := h.ok j hj
    rcases s with ⟨s, _⟩ | ⟨g, s, hg, _⟩
    · rw [s] at hk; cases hk
    · rw [s] at hk; cases hk; exact ⟨_, hg⟩
  refine ⟨h.le, h1.heap h.book (fun e => ?_), owns_touch h.row h1 (fun k hk e => ?_), fun i hi => ?_, h.apart, h.num, h.few⟩
  · obtain ⟨cur, hc⟩ := hu bk e
    have hb := h.book
    rw [hc] at hb
    have := (Obj.cells.inj (Option.some.inj hb)).2.1
    revert this; decide
  · obtain ⟨cur, hc⟩ := hu k e
    obtain ⟨cur2, hc2⟩ := owns_block h.row hk
    rw [hc] at hc2
    have := (Obj.cells.inj (Option.some.inj hc2)).2.1
    revert this; decide
  · by_cases hij : i = j
    · subst hij; exact h2
    · exact (h.ok i hi).touch h1 (fun g hg e => h.apart i j hi hj hij g hg e)
theorem HFill.grown {W w : World} {B : Nat} {l y : Hd} {x x' : UInt8} {t : Nat} {a : Option Addr} {c : Nat} (hg : GrowSt W w B l x t a c) (h : HFill W y x') (hne : ∀ k, y.a = some ⟨k, 0, none⟩ → l.a ≠ some ⟨k, 0, none⟩) : HFill w y x' := fun i hi => by
  obtain ⟨k, e, hc⟩ := h i hi
  exact ⟨k, e, hg.2.1.cell hc (fun e2 => hne k e e2)⟩
theorem setL (H : List Hl) (j : Nat) (hj : j < H.length) (g : Hd) (i : Nat) (hi : i < (H.set j { H[j] with g := g }).length) (hi' : i < H.length) : (H.set j { H[j] with g := g })[i].l = H[i].l ∧ (H.set j { H[j] with g := g })[i].m = H[i].m ∧ (i ≠ j → (H.set j { H[j] with g := g })[i].g = H[i].g) ∧ (i = j → (H.set j { H[j] with g := g })[i].g = g) := by
  rw [List.getElem_set]
  by_cases h : j = i
  · subst h; rw [if_pos rfl]; exact ⟨rfl, rfl, fun e => absurd rfl e, fun _ => rfl⟩
  · rw [if_neg h]; exact ⟨rfl, rfl, fun _ => rfl, fun e => absurd e.symm h⟩
theorem Bk.setG {w : World} {B bk N gr c : Nat} {H : List Hl} (h : Bk w B bk N (.slice (some ⟨gr, 0, none⟩) H.length c) H) (j : Nat) (hj : j < H.length) (g : Hd) :
    Bk (w.setCell ⟨gr, j * 3 + 1, none⟩ g.val) B bk N (.slice (some ⟨gr, 0, none⟩) H.length c) (H.set j { H[j] with g := g }) ∧ B ≤ gr ∧ (∃ cur, w.heap[gr]? = some (.cells cur 68 (0, 0)) ∧ j * 3 + 1 < cur.size) := by
  obtain ⟨hl, hr⟩ := h.row
  rcases hr with ⟨e, _⟩ | ⟨gr', cap, cur, e, hB, hg, hnc, hcm, hcs, htk⟩
  · cases e
  cases e
  have ht : Touch (fun k => k = gr) w (w.setCell ⟨gr, j * 3 + 1, none⟩ g.val) := (Touch.refl _ _).setCell _ _ (.inl rfl)
  have hsz : j * 3 + 1 < cur.size := by rw [hcs]; omega
  refine ⟨⟨h.le, ht.heap h.book (fun e => ?_), ?_, fun i hi => ?_, fun i k hi hk hik x hx => ?_, fun i hi => ?_, by simpa using h.few⟩, hB, cur, hg, hsz⟩
  · have hb := h.book
    rw [e, hg] at hb
    have := (Obj.cells.inj (Option.some.inj hb)).2.1
    revert this; decide
  · rw [List.length_set]
    refine ⟨by rw [hcells_length, List.length_set], .inr ⟨gr, c, cur.set (j * 3 + 1) g.val hsz, rfl, hB, ?_, hnc, hcm, by simpa using hcs, ?_⟩⟩
    · rw [heap_setCell_same _ _ _ _ _ _ hg]
      simp [Array.setIfInBounds, hsz]
    · rw [hcells_set H j hj g, ← htk, Nat.mul_comm 3 j]
      simp [List.take_set]
  · have hi' : i < H.length := by simpa using hi
    rw [(setL H j hj g i hi hi').1]
    exact (h.ok i hi').touch ht (fun x hx e => by
      obtain ⟨cur2, s, _⟩ := h.ok i hi'
      rcases s with ⟨s, _⟩ | ⟨g', s, hg', _⟩
      · rw [s] at hx; cases hx
      · rw [s] at hx; cases hx
        rw [e, hg] at hg'
        have := (Obj.cells.inj (Option.some.inj hg')).2.1
        revert this; decide)
  · have hi' : i < H.length := by simpa using hi
    have hk' : k < H.length := by simpa using hk
    rw [(setL H j hj g i hi hi').1] at hx
    rw [(setL H j hj g k hk hk').1]
    exact h.apart i k hi' hk' hik x hx
  · have hi' : i < H.length := by simpa using hi
    rw [(setL H j hj g i hi hi').2.1]
    exact h.num i hi'

/-- What is grown of the first j. -/
structure Grown (W w : World) (H : List Hl) (j : Nat) : Prop where
  low : ∀ i (hi : i < H.length), ∀ k, H[i].l.a = some ⟨k, 0, none⟩ → k < W.heap.size
  lists : ∀ i (hi : i < H.length), HFill w H[i].l (mk H[i].m)
  longs : ∀ i (hi : i < H.length), i < j → HFill w H[i].g (mk H[i].m) ∧ H[i].g.n = H[i].l.n + 40 ∧ ∀ k, H[i].g.a = some ⟨k, 0, none⟩ → H[i].l.a = some ⟨k, 0, none⟩ ∨ W.heap.size ≤ k
  size : W.heap.size ≤ w.heap.size

theorem grown_below {W w w' : World} {H : List Hl} {j : Nat} (h : Grown W w H j) (hb : Below w.heap.size w w') : Grown W w' H j :=
  ⟨h.low, fun i hi => (h.lists i hi).below hb, fun i hi hj => ⟨(h.longs i hi hj).1.below hb, (h.longs i hi hj).2⟩, Nat.le_trans h.size hb.size⟩
/-- One more list is grown. -/
theorem grown_step {W w w' : World} {B bk N gr c : Nat} {H : List Hl} {j : Nat} (h : Grown W w H j) (hk : Bk w B bk N (.slice (some ⟨gr, 0, none⟩) H.length c) H) (hgrW : gr < W.heap.size) (hj : j < H.length) {a : Option Addr} {c' : Nat} (hg : GrowSt w w' B H[j].l (mk H[j].m) 40 a c') :
    Grown W (w'.setCell ⟨gr, j * 3 + 1, none⟩ (Hd.val ⟨a, H[j].l.n + 40, c'⟩)) (H.set j { H[j] with g := ⟨a, H[j].l.n + 40, c'⟩ }) (j + 1) := by
  have hk' := hk.grown j hj hg
  obtain ⟨_, _, cur0, hgr, _⟩ := hk'.setG j hj ⟨a, H[j].l.n + 40, c'⟩
  have hcell : ∀ {y : Hd} {x : UInt8}, (∀ k, y.a = some ⟨k, 0, none⟩ → k ≠ gr) → HFill w' y x → HFill (w'.setCell ⟨gr, j * 3 + 1, none⟩ (Hd.val ⟨a, H[j].l.n + 40, c'⟩)) y x := fun hu hf i hi => by
    obtain ⟨k, e, hc⟩ := hf i hi
    exact ⟨k, e, (World.cell?_setCell_far _ _ _ _ (fun e2 => hu k e e2.symm)).trans hc⟩
  have hlu : ∀ i (hi : i < H.length), ∀ k, H[i].l.a = some ⟨k, 0, none⟩ → k ≠ gr := fun i hi k hk2 e => by
    obtain ⟨cur, s, _⟩ := hk'.ok i hi
    rcases s with ⟨s, _⟩ | ⟨g', s, hg', _⟩
    · rw [s] at hk2; cases hk2
    · rw [s] at hk2; cases hk2
      rw [e, hgr] at hg'
      have := (Obj.cells.inj (Option.some.inj hg')).2.1
      revert this; decide
  obtain ⟨g0, g1, g2, g3, cur, g4, g5, g6⟩ := hg
  have hgs : GrowSt w w' B H[j].l (mk H[j].m) 40 a c' := ⟨g0, g1, g2, g3, cur, g4, g5, g6⟩
  have hlong : HFill w' ⟨a, H[j].l.n + 40, c'⟩ (mk H[j].m) := HFill.of_take g4 g5 (Nat.le_refl _)
  have hlists : ∀ i (hi : i < H.length), HFill w' H[i].l (mk H[i].m) := fun i hi => by
    by_cases hij : i = j
    · subst hij; exact g3
    · exact (h.lists i hi).grown hgs (fun k hk2 => hk.apart i j hi hj hij k hk2)
  refine ⟨fun i hi k hk2 => ?_, fun i hi => ?_, fun i hi hij => ?_, ?_⟩
  · have hi' : i < H.length := by simpa using hi
    rw [(setL H j hj _ i hi hi').1] at hk2
    exact h.low i hi' k hk2
  · have hi' : i < H.length := by simpa using hi
    rw [(setL H j hj _ i hi hi').1, (setL H j hj _ i hi hi').2.1]
    exact hcell (hlu i hi') (hlists i hi')
  · have hi' : i < H.length := by simpa using hi
    obtain ⟨e1, e2, e3, e4⟩ := setL H j hj ⟨a, H[j].l.n + 40, c'⟩ i hi hi'
    rw [e1, e2]
    by_cases hj2 : i = j
    · subst hj2
      rw [e4 rfl]
      refine ⟨hcell (fun k hk2 => ?_) hlong, rfl, fun k hk2 => ?_⟩
      · rcases g6 with ⟨g6, _⟩ | ⟨g, g6, hW⟩
        · exact hlu i hi' k (by rw [← g6]; exact hk2)
        · have hk3 : a = some ⟨k, 0, none⟩ := hk2
          rw [g6] at hk3; cases hk3
          have := h.size
          omega
      · rcases g6 with ⟨g6, _⟩ | ⟨g, g6, hW⟩
        · exact .inl (by rw [← g6]; exact hk2)
        · have hk3 : a = some ⟨k, 0, none⟩ := hk2
          rw [g6] at hk3; cases hk3
          exact .inr (Nat.le_trans h.size hW)
    · rw [e3 hj2]
      obtain ⟨l1, l2, l3⟩ := h.longs i hi' (by omega)
      have hne : ∀ k, H[i].g.a = some ⟨k, 0, none⟩ → k ≠ gr ∧ H[j].l.a ≠ some ⟨k, 0, none⟩ := fun k hk2 => by
        rcases l3 k hk2 with l4 | l4
        · exact ⟨hlu i hi' k l4, hk.apart i j hi' hj hj2 k l4⟩
        · exact ⟨by omega, fun e => by have := h.low j hj k e; omega⟩
      exact ⟨hcell (fun k hk2 => (hne k hk2).1) (l1.grown hgs (fun k hk2 => (hne k hk2).2)), l2, l3⟩
  · have : (w'.setCell ⟨gr, j * 3 + 1, none⟩ (Hd.val ⟨a, H[j].l.n + 40, c'⟩)).heap.size = w'.heap.size := by simp [World.setCell]
    rw [this]
    exact Nat.le_trans h.size g1.size

set_option maxHeartbeats 4000000 in
theorem growByte_any (w : World) (B bk N : Nat) (bs : Value) (H : List Hl) (h : Bk w B bk N bs H) (hf : ∀ i (hi : i < H.length), HFill w H[i].l (mk H[i].m)) (hsm : ∀ i (hi : i < H.length), H[i].l.n ≤ 100000000) :
    Calls Tryd.prog 39 #[.pointer (some ⟨bk, 0, none⟩)] w fun e w' => e = .returned (.tuple #[]) ∧ Below B w w' ∧ ∃ H', H'.length = H.length ∧ Bk w' B bk N bs H' ∧ Grown w w' H' H.length ∧ ∀ i (hi : i < H'.length), H'[i].l.n ≤ 100000000 := by
  have hfew := h.few
  obtain ⟨bo, bc, rfl⟩ := owns_shape h.row
  have HG0 : Hid (Grown w w H 0) := Lib.hid ⟨fun i hi k hk => by
    obtain ⟨cur, s, _⟩ := h.ok i hi
    rcases s with ⟨s, _⟩ | ⟨g', s, hg', _⟩
    · rw [s] at hk; cases hk
    · rw [s] at hk; cases hk; exact lt_of_heap hg', hf, fun i hi hij => by omega, Nat.le_refl _⟩
  have HGR : Hid (∀ gr, bo = some ⟨gr, 0, none⟩ → 0 < H.length → gr < w.heap.size) := Lib.hid (fun gr e hn => by
    obtain ⟨gr', c, cur, e2, _, _, hgr, _⟩ := h.row_at hn
    rw [e] at e2
    cases e2
    exact lt_of_heap hgr)
  have HH := Lib.hid h
  have HSM := Lib.hid hsm
  clear h hf hsm
  go_enter Tryd.func39, Tryd.ntmps39
  go_wp2
  obtain ⟨M, hM⟩ : ∃ M, M = H.length := ⟨_, rfl⟩
  have HM := Lib.hid hM
  rw [← hM] at hfew
  clear hM
  go_loopw [2] (fun i wr => ∃ j : Nat, j ≤ M ∧ i = .int .i64 j ∧ Hid (Below B w wr) ∧ Hid (∃ H', H'.length = M ∧ Bk wr B bk N (.slice bo M bc) H' ∧ Grown w wr H' j ∧ ∀ i (hi : i < H'.length), H'[i].l.n ≤ 100000000)) (fun i _ => M - (intOf i).toNat)
  case atStart => exact ⟨0, Nat.zero_le _, rfl, Lib.hid (Below.refl _ _), Lib.hid ⟨H, HM.out.symm, by rw [HM.out]; exact HH.out, HG0.out, HSM.out⟩⟩
  case round =>
    obtain ⟨j, hj, rfl, HB, HX⟩ := hrel
    obtain ⟨H', hl', hk, hgn, hs'⟩ := HX.out
    have f1 : wr.cell? ⟨bk, 1, none⟩ = some (.slice bo M bc) := book_cell1 hk.book
    by_cases hlt : j < M
    · have hjH : j < H'.length := by omega
      obtain ⟨gr, c, cur, hbs, hnc, hcm, hgr, hra⟩ := hk.row_at (by omega)
      rw [hl'] at hbs hnc
      obtain ⟨rfl, rfl⟩ : bo = some ⟨gr, 0, none⟩ ∧ bc = c := by simpa using hbs
      have hgrW := HGR.out gr rfl (by have := HM.out; omega)
      obtain ⟨xa, xn, xc, ya, yn, yc, m, E⟩ : ∃ xa xn xc ya yn yc m, Hid (xa = H'[j].l.a ∧ xn = H'[j].l.n ∧ xc = H'[j].l.c ∧ ya = H'[j].g.a ∧ yn = H'[j].g.n ∧ yc = H'[j].g.c ∧ m = H'[j].m) := ⟨_, _, _, _, _, _, _, Lib.hid ⟨rfl, rfl, rfl, rfl, rfl, rfl, rfl⟩⟩
      have RA : Hid (wr.rangeAt gr (j * 3) [.slice xa xn xc, .slice ya yn yc, .int .i64 m]) := Lib.hid (by obtain ⟨e1, e2, e3, e4, e5, e6, e7⟩ := E.out; rw [e1, e2, e3, e4, e5, e6, e7]; exact hra j hjH)
      have hm62 : m < 4611686018427387904 := by rw [E.out.2.2.2.2.2.2]; exact hk.num j hjH
      have hxs : xn ≤ 100000000 := by rw [E.out.2.1]; exact hs' j hjH
      clear hbs hra hnc
      go_wp2_with (first
        | (refine wpList_load_mid rfl 68 (.tmp 20) rfl gr (j * 3) rfl [.slice xa xn xc, .slice ya yn yc, .int .i64 m] _ RA.out Tryd.underlying68 rfl infoHl3 ?_)
        | fail)
      have hv := heap_new wr (.cells #[.slice xa xn xc, .slice ya yn yc, .int .i64 m] 68 (0, 0))
      have hbv : Below wr.heap.size wr (wr.alloc (.cells #[.slice xa xn xc, .slice ya yn yc, .int .i64 m] 68)) := (Below.refl _ _).alloc (Nat.le_refl _) _
      have hBw : B ≤ wr.heap.size := Nat.le_trans hk.le (Nat.le_of_lt (lt_of_heap hk.book))
      generalize wr.alloc (.cells #[.slice xa xn xc, .slice ya yn yc, .int .i64 m] 68) = w1 at hv hbv ⊢
      have HB1 := Lib.hid (HB.out.trans (hbv.mono hBw))
      have HBw1 : Hid (B ≤ w1.heap.size) := Lib.hid (Nat.le_trans hBw hbv.size)
      have HK1 := Lib.hid (hk.below hbv)
      have HG1 := Lib.hid (grown_below hgn hbv)
      have HV1 := Lib.hid hv
      have HL := Lib.hid hl'
      have HS := Lib.hid hs'
      obtain ⟨hv0, hhv⟩ : ∃ hv0, hv0 = wr.heap.size := ⟨_, rfl⟩
      rw [← hhv] at HV1 ⊢
      have hl0 : Hid (∀ k, xa = some ⟨k, 0, none⟩ → k ≠ hv0) := Lib.hid (fun k hk2 e => by
        rw [E.out.1] at hk2
        obtain ⟨cur2, s, _⟩ := HK1.out.ok j hjH
        rcases s with ⟨s, _⟩ | ⟨g', s, hg', _⟩
        · rw [s] at hk2; cases hk2
        · rw [s] at hk2; cases hk2
          rw [e, HV1.out] at hg'
          have := (Obj.cells.inj (Option.some.inj hg')).2.1
          revert this; decide)
      clear hv hbv hBw HB HX hk hgn hs' f1 hhv hgr
      have hst : GrowSt w1 w1 B H'[j].l (mk H'[j].m) 0 H'[j].l.a H'[j].l.c := GrowSt.start (HK1.out.ok j hjH) (HG1.out.lists j hjH)
      have HST := Lib.hid hst
      clear hst
      obtain ⟨P, hP⟩ : ∃ P, P = 40 := ⟨_, rfl⟩
      have HP := Lib.hid hP
      clear hP
      go_wp2
      go_loopw [5, 4] (fun i2 s2 wk => ∃ t : Nat, ∃ a2 n2 c2, t ≤ 40 ∧ i2 = .int .i64 t ∧ s2 = .slice a2 n2 c2 ∧ Hid (n2 = xn + t) ∧ Hid (GrowSt w1 wk B H'[j].l (mk H'[j].m) t a2 c2)) (fun i2 _ _ => P - (intOf i2).toNat)
      case atStart => exact ⟨0, xa, xn, xc, by omega, rfl, rfl, Lib.hid rfl, Lib.hid (by rw [E.out.1, E.out.2.2.1]; exact HST.out)⟩
      case round =>
        obtain ⟨t, a2, n2, c2, ht, rfl, rfl, HN2, HS2⟩ := hrel
        have HV : Hid (wr.heap[hv0]? = some (.cells #[.slice xa xn xc, .slice ya yn yc, .int .i64 m] 68 (0, 0))) := Lib.hid (HS2.out.2.1.heap HV1.out (fun e => hl0.out hv0 (by rw [E.out.1]; exact e) rfl))
        have v2 : wr.cell? ⟨hv0, 2, none⟩ = some (.int .i64 m) := by rw [cell_of_block HV.out]; rfl
        by_cases htl : t < 40
        · have hn2 : n2 ≤ 100000100 := by have := HN2.out; omega
          have hs2 := HS2.out
          obtain ⟨_, _, _, _, cur2, s2, tk2, _⟩ := hs2
          have hnn : H'[j].l.n + t = n2 := by rw [HN2.out, E.out.2.1]
          rw [hnn] at s2 tk2
          have HC2 := Lib.hid s2
          have HTK := Lib.hid tk2
          have HNN := Lib.hid hnn
          have hba : Below wr.heap.size wr (wr.alloc (.cells #[.int .u8 ((mk m).toNat : Int)] 5)) := (Below.refl _ _).alloc (Nat.le_refl _) _
          have HA1 : Hid (S1 (wr.alloc (.cells #[.int .u8 ((mk m).toNat : Int)] 5)) a2 n2 c2 cur2) := Lib.hid (HC2.out.touch (Touch.of_below (S := fun _ => False) hba) (fun _ _ => id))
          have HA2 : Hid ((wr.alloc (.cells #[.int .u8 ((mk m).toNat : Int)] 5)).cell? ⟨wr.heap.size, 0, none⟩ = some (.int .u8 ((mk m).toNat : Int))) := Lib.hid (by rw [cell_of_block (heap_new _ _)]; rfl)
          have HA3 := Lib.hid (HS2.out.below hba)
          clear s2 tk2 hnn hba
          go_wp2_with fail
          refine (markByte_any m wr hm62).mono ?_
          rintro e w4 ⟨rfl, rfl⟩
          go_wp2_with (first
            | (at_builtin; refine wpList_append1 rfl (.tmp 28) (.tmp 32) rfl a2 n2 c2 cur2 rfl HA1.out ⟨wr.heap.size, 0, none⟩ (.int .u8 ((mk m).toNat : Int)) rfl HA2.out rfl (by omega) ?_; intro a3 c3 cur3 w3 hs3 ht3 hd3)
            | fail)
          have hst3 : GrowSt w1 w3 B H'[j].l (mk H'[j].m) (t + 1) a3 c3 := by
            have hs1 := HA1.out
            have hx := HA3.out
            rw [← HNN.out] at hs1 hs3 ht3 hd3
            rw [← E.out.2.2.2.2.2.2]
            rw [← E.out.2.2.2.2.2.2] at hx
            exact hx.step cur2 hs1 hs3 ht3 hd3
          have HST3 := Lib.hid hst3
          clear hst3 hs3 ht3 hd3 HA1 HA2 HA3 HC2 HTK HV v2 HS2
          go_wp2
          go_roundw
          case rel => exact ⟨t + 1, a3, n2 + 1, c3, by omega, by go_num, rfl, Lib.hid (by rw [HN2.out]; omega), HST3⟩
          case measure => have := HP.out; simp [intOf]; omega
        · have hte : t = 40 := by omega
          subst hte
          have hk4 : Bk wr B bk N (.slice (some ⟨gr, 0, none⟩) H'.length bc) H' := by
            have := HK1.out.grown j hjH HS2.out
            rw [HL.out]; exact this
          obtain ⟨N2, hN2⟩ : ∃ N2, N2 = n2 := ⟨_, rfl⟩
          have hn3 : N2 = H'[j].l.n + 40 := by rw [hN2, HN2.out, E.out.2.1]
          obtain ⟨hk5, hBgr, cur5, hgr5, hc5⟩ := hk4.setG j hjH ⟨a2, N2, c2⟩
          rw [hN2] at hk5 hn3
          have c1 : ∃ u, wr.cell? ⟨gr, j * 3 + 1, none⟩ = some u := by rw [cell_of_block hgr5]; exact ⟨_, Array.getElem?_eq_getElem hc5⟩
          obtain ⟨u, c1⟩ := c1
          have c2' : wr.frozen? ⟨gr, j * 3 + 1, none⟩ = false := book_frozen hgr5
          have f1 : wr.cell? ⟨bk, 1, none⟩ = some (.slice (some ⟨gr, 0, none⟩) M bc) := book_cell1 (by rw [← HL.out]; exact hk4.book)
          have HK5 := Lib.hid hk5
          have HB5 : Hid (Below B w (wr.setCell ⟨gr, j * 3 + 1, none⟩ (.slice a2 n2 c2))) := Lib.hid ((HB1.out.trans (HS2.out.2.1.below HBw1.out (fun k hk e => by
            obtain ⟨_, _, hB⟩ := HK1.out.ok j hjH
            have := hB k e
            omega))).setCell hBgr _)
          have HG5 : Hid (Grown w (wr.setCell ⟨gr, j * 3 + 1, none⟩ (.slice a2 n2 c2)) (H'.set j { H'[j] with g := ⟨a2, n2, c2⟩ }) (j + 1)) := Lib.hid (by
            have := grown_step HG1.out (by have := HK1.out; rw [← HL.out] at this; exact this) hgrW hjH HS2.out
            rw [hn3]; exact this)
          have HS5 : Hid (∀ (i : Nat) (hi : i < (H'.set j { H'[j] with g := ⟨a2, n2, c2⟩ }).length), (H'.set j { H'[j] with g := ⟨a2, n2, c2⟩ })[i].l.n ≤ 100000000) := Lib.hid (fun i hi => by
            have hi' : i < H'.length := by simpa using hi
            rw [(setL H' j hjH _ i hi hi').1]; exact HS.out i hi')
          have HL5 : Hid ((H'.set j { H'[j] with g := ⟨a2, n2, c2⟩ }).length = M) := Lib.hid (by rw [List.length_set]; exact HL.out)
          rw [← hN2] at hn3
          clear hk4 hk5 hgr5 hc5 hn3 hN2 v2 HV
          have esl : Value.slice (some ⟨gr, 0, none⟩) H'.length bc = .slice (some ⟨gr, 0, none⟩) M bc := by rw [HL.out]
          have hk6 := HK5.out
          rw [esl] at hk6
          have HK6 := Lib.hid hk6
          clear hk6 esl HK5
          go_wp2
          go_roundw
          case rel => exact ⟨j + 1, by omega, by go_num, HB5, Lib.hid ⟨_, HL5.out, HK6.out, HG5.out, HS5.out⟩⟩
          case measure => have := HM.out; simp [intOf]; omega
    · have hje : j = M := by omega
      subst hje
      go_wp2
      go_end0
      exact ⟨rfl, HB.out, H', by rw [hl', HM.out], by rw [← HM.out]; exact hk, by rw [← HM.out]; exact hgn, hs'⟩

end Go.Proofs.YtppmpgkkegldnaaDoor
