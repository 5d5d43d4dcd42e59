/- A book fills its lists of bytes; conditions: those typed. -/
import Derived.Test.YtppmpgkkegldnaaDoorBookK
import Derived.Test.YtppmpgkkegldnaaDoorBig
namespace Go.Proofs.YtppmpgkkegldnaaDoor
open Go.RowKit
set_option linter.unusedVariables false
set_option linter.unusedSimpArgs false
set_option maxRecDepth 100000

theorem Bk.list_at {w : World} {B bk N : Nat} {bs : Value} {H : List Hl} (h : Bk w B bk N bs H) (j : Nat) (hj : j < H.length) (k : Nat) (hk : k < H[j].l.n) :
    ∃ g cur, H[j].l.a = some ⟨g, 0, none⟩ ∧ w.heap[g]? = some (.cells cur 5 (0, 0)) ∧ k < cur.size ∧ B ≤ g := by
  obtain ⟨cur, h1, h2⟩ := h.ok j hj
  rcases h1 with ⟨_, h1, _⟩ | ⟨g, h1, hc, h3, h4, _⟩
  · omega
  · exact ⟨g, _, h1, hc, by simp; omega, h2 g h1⟩
/-- A byte of a list is laid. -/
theorem Bk.store {w : World} {B bk N : Nat} {bs : Value} {H : List Hl} (h : Bk w B bk N bs H) (j : Nat) (hj : j < H.length) (k g : Nat) (hk : k < H[j].l.n) (hg : H[j].l.a = some ⟨g, 0, none⟩) (v : Value) : Bk (w.setCell ⟨g, k, none⟩ v) B bk N bs H := by
  obtain ⟨g', cur, e1, hc, hkc, hB⟩ := h.list_at j hj k hk
  rw [hg] at e1
  cases e1
  have ht : Touch (fun x => x = g) w (w.setCell ⟨g, k, none⟩ v) := (Touch.refl _ _).setCell _ _ (.inl rfl)
  refine ⟨h.le, ht.heap h.book (fun e => ?_), owns_touch h.row ht (fun x hx e => ?_), fun i hi => ?_, h.apart, h.num, h.few⟩
  · have hb := h.book
    rw [e, hc] at hb
    have := (Obj.cells.inj (Option.some.inj hb)).2.1
    revert this; decide
  · obtain ⟨cur2, hc2⟩ := owns_block h.row hx
    rw [e, hc] at hc2
    have := (Obj.cells.inj (Option.some.inj hc2)).2.1
    revert this; decide
  · by_cases hij : i = j
    · subst hij
      obtain ⟨cur3, s1, s2⟩ := h.ok i hi
      rcases s1 with ⟨s1, _⟩ | ⟨g3, s1, hc3, s4, s5, s6⟩
      · rw [hg] at s1; cases s1
      · rw [hg] at s1; cases s1
        rw [hc] at hc3
        refine ⟨cur3.set k v, .inr ⟨g, hg, ?_, s4, by simpa using s5, s6⟩, s2⟩
        rw [heap_setCell_same _ _ _ _ _ _ hc]
        have : cur = cur3.toArray := (Obj.cells.inj (Option.some.inj hc3)).1
        subst this
        simp
    · exact (h.ok i hi).touch ht (fun x hx e => h.apart j i hj hi (Ne.symm hij) g hg (by rw [hx, e]))
theorem HFill.store {w : World} {y : Hd} {x : UInt8} (h : HFill w y x) (g k : Nat) (v : Value) (hne : y.a ≠ some ⟨g, 0, none⟩) : HFill (w.setCell ⟨g, k, none⟩ v) y x := fun i hi => by
  obtain ⟨g2, e, hc⟩ := h i hi
  refine ⟨g2, e, ?_⟩
  rw [World.cell?_setCell_far _ _ _ _ (by intro e2; exact hne (by rw [e]; dsimp only at e2; rw [e2]))]
  exact hc
theorem HFill.below {w w' : World} {y : Hd} {x : UInt8} (h : HFill w y x) (hb : Below w.heap.size w w') : HFill w' y x := fun i hi => by
  obtain ⟨g2, e, hc⟩ := h i hi
  exact ⟨g2, e, cell_later hb hc⟩
theorem Bk.row_at {w : World} {B bk N : Nat} {bs : Value} {H : List Hl} (h : Bk w B bk N bs H) (hn : 0 < H.length) : ∃ gr c cur, bs = .slice (some ⟨gr, 0, none⟩) H.length c ∧ H.length ≤ c ∧ c ≤ maxLen ∧ w.heap[gr]? = some (.cells cur 68 (0, 0)) ∧ ∀ j (hj : j < H.length), w.rangeAt gr (j * 3) H[j].cells := by
  rcases h.row.2 with ⟨_, h0⟩ | ⟨gr, c, cur, hv, _, hg, hnc, hcm, hcs, htk⟩
  · omega
  · refine ⟨gr, c, cur, hv, hnc, hcm, hg, fun j hj x v hx => ?_⟩
    rw [cell_of_block hg]
    have hx3 : x < 3 := by have := (List.getElem?_eq_some_iff.1 hx).1; exact this
    have e : (cur.toList.take (H.length * 3))[j * 3 + x]? = some v := by
      rw [htk, Nat.mul_comm j 3, hcells_get H j hj x hx3]; exact hx
    rw [List.getElem?_take] at e
    split at e
    · simpa using e
    · cases e
theorem infoHl3 : (Tryd.prog.info? 68).map (·.size) = some 3 := by kernel_rfl

set_option maxHeartbeats 4000000 in
theorem fillByte_any (w : World) (B bk N : Nat) (bs : Value) (H : List Hl) (h : Bk w B bk N bs H) :
    Calls Tryd.prog 30 #[.pointer (some ⟨bk, 0, none⟩)] w fun e w' => e = .returned (.tuple #[]) ∧ Below B w w' ∧ Bk w' B bk N bs H ∧ ∀ i (hi : i < H.length), HFill w' H[i].l (mk H[i].m) := by
  have hfew := h.few
  obtain ⟨bo, bc, rfl⟩ := owns_shape h.row
  have HH := Lib.hid h
  clear h
  go_enter Tryd.func30, Tryd.ntmps30
  go_wp2
  obtain ⟨M, hM⟩ : ∃ M, M = H.length := ⟨_, rfl⟩
  have HM := Lib.hid hM
  clear hM
  go_loopw [2] (fun i wr => ∃ j : Nat, j ≤ H.length ∧ i = .int .i64 j ∧ Hid (Below B w wr) ∧ Hid (Bk wr B bk N (.slice bo H.length bc) H) ∧ Hid (∀ i (hi : i < H.length), i < j → HFill wr H[i].l (mk H[i].m))) (fun i _ => M - (intOf i).toNat)
  case atStart => exact ⟨0, Nat.zero_le _, rfl, Lib.hid (Below.refl _ _), HH, Lib.hid (fun i hi h => by omega)⟩
  case round =>
    obtain ⟨j, hj, rfl, HB, HK, HF⟩ := hrel
    have f1 : wr.cell? ⟨bk, 1, none⟩ = some (.slice bo H.length bc) := book_cell1 HK.out.book
    by_cases hlt : j < H.length
    · obtain ⟨gr, c, cur, hbs, hnc, hcm, hgr, hra⟩ := HK.out.row_at (by omega)
      obtain ⟨rfl, rfl⟩ : bo = some ⟨gr, 0, none⟩ ∧ bc = c := by simpa using hbs
      obtain ⟨xa, xn, xc, ya, yn, yc, m, E⟩ : ∃ xa xn xc ya yn yc m, Hid (xa = H[j].l.a ∧ xn = H[j].l.n ∧ xc = H[j].l.c ∧ ya = H[j].g.a ∧ yn = H[j].g.n ∧ yc = H[j].g.c ∧ m = H[j].m) := ⟨_, _, _, _, _, _, _, Lib.hid ⟨rfl, rfl, rfl, rfl, rfl, rfl, rfl⟩⟩
      have RA : Hid (wr.rangeAt gr (j * 3) [.slice xa xn xc, .slice ya yn yc, .int .i64 m]) := Lib.hid (by obtain ⟨e1, e2, e3, e4, e5, e6, e7⟩ := E.out; rw [e1, e2, e3, e4, e5, e6, e7]; exact hra j hlt)
      have hm62 : m < 4611686018427387904 := by rw [E.out.2.2.2.2.2.2]; exact HK.out.num j hlt
      have hxn : xn ≤ maxLen := by
        obtain ⟨cur3, s1, _⟩ := HK.out.ok j hlt
        rw [E.out.2.1]
        rcases s1 with ⟨_, s1, _⟩ | ⟨_, _, _, s4, s5, s6⟩
        · rw [s1]; exact Nat.zero_le _
        · exact Nat.le_trans s4 s6
      have hxm : (xn : Int) ≤ 9223372036854775807 := by unfold maxLen at hxn; omega
      clear hbs hra
      go_wp2_with (first
        | (refine wpList_load_mid rfl 68 (.tmp 19) rfl gr (j * 3) rfl [.slice xa xn xc, .slice ya yn yc, .int .i64 m] _ RA.out Tryd.underlying68 rfl infoHl3 ?_)
        | fail)
      have hv := heap_new wr (.cells #[.slice xa xn xc, .slice ya yn yc, .int .i64 m] 68 (0, 0))
      have hbv : Below wr.heap.size wr (wr.alloc (.cells #[.slice xa xn xc, .slice ya yn yc, .int .i64 m] 68)) := (Below.refl _ _).alloc (Nat.le_refl _) _
      have hBw : B ≤ wr.heap.size := Nat.le_trans HK.out.le (Nat.le_of_lt (lt_of_heap HK.out.book))
      generalize wr.alloc (.cells #[.slice xa xn xc, .slice ya yn yc, .int .i64 m] 68) = w1 at hv hbv ⊢
      have HB1 := Lib.hid (HB.out.trans (hbv.mono hBw))
      have HK1 := Lib.hid (HK.out.below hbv)
      have HF1 : Hid (∀ i (hi : i < H.length), i < j → HFill w1 H[i].l (mk H[i].m)) := Lib.hid (fun i hi h => (HF.out i hi h).below hbv)
      have HV1 := Lib.hid hv
      obtain ⟨hv0, hhv⟩ : ∃ hv0, hv0 = wr.heap.size := ⟨_, rfl⟩
      rw [← hhv] at HV1 ⊢
      clear hv hbv hBw HB HK HF f1 hhv hgr
      obtain ⟨P, hP⟩ : ∃ P, P = xn := ⟨_, rfl⟩
      have HP := Lib.hid hP
      clear hP
      go_loopw [4] (fun i2 wk => ∃ k : Nat, k ≤ xn ∧ i2 = .int .i64 k ∧ Hid (Below B w wk) ∧ Hid (Bk wk B bk N (.slice (some ⟨gr, 0, none⟩) H.length bc) H) ∧ Hid (∀ i (hi : i < H.length), i < j → HFill wk H[i].l (mk H[i].m)) ∧ Hid (∀ x, x < k → ∃ g, xa = some ⟨g, 0, none⟩ ∧ wk.cell? ⟨g, x, none⟩ = some (.int .u8 (mk m).toNat)) ∧ Hid (wk.heap[hv0]? = some (.cells #[.slice xa xn xc, .slice ya yn yc, .int .i64 m] 68 (0, 0)))) (fun i2 _ => P - (intOf i2).toNat)
      case atStart => exact ⟨0, Nat.zero_le _, rfl, HB1, HK1, HF1, Lib.hid (fun x hx => by omega), HV1⟩
      case round =>
        clear HB1 HK1 HF1 HV1
        obtain ⟨k, hk, rfl, HB, HK, HF, HX, HV⟩ := hrel
        have v0 : wr.cell? ⟨hv0, 0, none⟩ = some (.slice xa xn xc) := by rw [cell_of_block HV.out]; rfl
        have v2 : wr.cell? ⟨hv0, 2, none⟩ = some (.int .i64 m) := by rw [cell_of_block HV.out]; rfl
        by_cases hkl : k < xn
        · obtain ⟨g, cur, hga, hgc, hgk, hgB⟩ := HK.out.list_at j hlt k (by rw [← E.out.2.1]; exact hkl)
          have hxa : xa = some ⟨g, 0, none⟩ := by rw [E.out.1]; exact hga
          subst hxa
          obtain ⟨u, c1⟩ : ∃ u, wr.cell? ⟨g, k, none⟩ = some u := by rw [cell_of_block hgc]; exact ⟨_, Array.getElem?_eq_getElem hgk⟩
          have c1' : wr.drew.cell? ⟨g, k, none⟩ = some u := c1
          have c2 : wr.frozen? ⟨g, k, none⟩ = false := book_frozen hgc
          have c2' : wr.drew.frozen? ⟨g, k, none⟩ = false := c2
          have hne : g ≠ hv0 := fun e => by
            have hv := HV.out
            rw [← e, hgc] at hv
            have := (Obj.cells.inj (Option.some.inj hv)).2.1
            revert this; decide
          have v0d : wr.drew.cell? ⟨hv0, 0, none⟩ = some (.slice (some ⟨g, 0, none⟩) xn xc) := v0
          have v2d : wr.drew.cell? ⟨hv0, 2, none⟩ = some (.int .i64 m) := v2
          go_wp2
          go_region_held3 (fun w' => w'.cell? ⟨hv0, 0, none⟩ = some (.slice (some ⟨g, 0, none⟩) xn xc) ∧ w'.cell? ⟨hv0, 2, none⟩ = some (.int .i64 m)) (first
              | with_reducible exact ⟨v0d, v2d⟩
              | exact ⟨(World.cell?_setCell_far wr ⟨g, k, none⟩ ⟨hv0, 0, none⟩ _ hne).trans v0, (World.cell?_setCell_far wr ⟨g, k, none⟩ ⟨hv0, 2, none⟩ _ hne).trans v2⟩) (first
            | (go_at_call 57; ((with_reducible refine (markByte_any m wr.drew hm62).mono ?_); rintro e w3 ⟨rfl, rfl⟩))
            | fail)
          have hdr := (Below.refl (wr.setCell ⟨g, k, none⟩ (.int .u8 (mk m).toNat)).heap.size (wr.setCell ⟨g, k, none⟩ (.int .u8 (mk m).toNat))).drew
          have HB2 := Lib.hid ((HB.out.setCell (p := ⟨g, k, none⟩) hgB (.int .u8 (mk m).toNat)).drew)
          have HK2 := Lib.hid ((HK.out.store j hlt k g (by rw [← E.out.2.1]; exact hkl) hga (.int .u8 (mk m).toNat)).below hdr)
          have HF2 : Hid (∀ i (hi : i < H.length), i < j → HFill ((wr.setCell ⟨g, k, none⟩ (.int .u8 (mk m).toNat)).drew) H[i].l (mk H[i].m)) := Lib.hid (fun i hi h => ((HF.out i hi h).store g k _ (HK.out.apart j i hlt hi (by omega) g hga)).below hdr)
          have HX2 : Hid (∀ x, x < k + 1 → ∃ g', (some ⟨g, 0, none⟩ : Option Addr) = some ⟨g', 0, none⟩ ∧ ((wr.setCell ⟨g, k, none⟩ (.int .u8 (mk m).toNat)).drew).cell? ⟨g', x, none⟩ = some (.int .u8 (mk m).toNat)) := Lib.hid (fun x hx => by
            refine ⟨g, rfl, ?_⟩
            by_cases hxk : x = k
            · subst hxk
              exact World.cell?_setCell_same' _ _ _ (by rw [c1]; rfl)
            · obtain ⟨g', e, hc⟩ := HX.out x (by omega)
              cases e
              exact (World.cell?_setCell_other _ _ _ _ (by intro e; cases e; exact hxk rfl)).trans hc)
          have HV2 : Hid (((wr.setCell ⟨g, k, none⟩ (.int .u8 (mk m).toNat)).drew).heap[hv0]? = some (.cells #[.slice (some ⟨g, 0, none⟩) xn xc, .slice ya yn yc, .int .i64 m] 68 (0, 0))) := Lib.hid ((Below.heap_setCell wr ⟨g, k, none⟩ _ hv0 (Ne.symm hne)).trans HV.out)
          clear hgc c1 c1' c2 c2' v0 v2 v0d v2d HB HK HF HX HV hdr hga
          generalize (wr.setCell ⟨g, k, none⟩ (.int .u8 (mk m).toNat)).drew = w3 at HB2 HK2 HF2 HX2 HV2 ⊢
          go_wp2
          go_roundw
          case rel => exact ⟨k + 1, by omega, by go_num, HB2, HK2, HF2, HX2, HV2⟩
          case measure => have := HP.out; simp [intOf]; omega
        · have hke : k = xn := by omega
          subst hke
          have HF2 : Hid (∀ i (hi : i < H.length), i < j + 1 → HFill wr H[i].l (mk H[i].m)) := Lib.hid (fun i hi h => by
            by_cases hij : i = j
            · subst hij
              intro x hx
              obtain ⟨e1, e2, _, _, _, _, e7⟩ := E.out
              rw [← e2] at hx
              rw [← e1, ← e7]
              exact HX.out x hx
            · exact HF.out i hi (by omega))
          clear HF HX HV
          go_wp2
          go_roundw
          case rel => exact ⟨j + 1, by omega, by go_num, HB, HK, HF2⟩
          case measure => have := HM.out; simp [intOf]; omega
    · have hjl : j = H.length := by omega
      subst hjl
      go_wp2
      go_end0
      exact ⟨rfl, HB.out, HK.out, fun i hi => HF.out i hi hi⟩

end Go.Proofs.YtppmpgkkegldnaaDoor
