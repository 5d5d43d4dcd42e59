/- A book of four kinds: lists that are filled and grown; no program in sight but the types. -/
import Derived.Test.YthadgnaaipdpaaaGreatDoorKBk
namespace Go.Proofs.YthadgnaaipdpaaaGreatDoor
open Go.RowKit
set_option linter.unusedVariables false
set_option linter.unusedSimpArgs false
set_option maxRecDepth 100000

theorem take_snoc_good {κ : Kd} {F : Nat} {w : World} {m n : Nat} {cur cur' : List Value} {v : Value} (h : ∀ u ∈ cur.take n, Good κ F w m u) (hv : Good κ F w m v) (e : cur'.take (n + 1) = cur.take n ++ [v]) : ∀ u ∈ cur'.take (n + 1), Good κ F w m u := fun u hu => by
  rw [e] at hu
  rcases List.mem_append.1 hu with hu | hu
  · exact h u hu
  · simp at hu; subst hu; exact hv
theorem HFill.of_take {κ : Kd} {F : Nat} {w : World} {a : Option Addr} {n n2 c c2 : Nat} {cur : List Value} {m : Nat} (h : SK κ.el w a n c cur) (ht : ∀ u ∈ cur.take n, Good κ F w m u) (hn : n2 ≤ n) : HFill κ F w ⟨a, n2, c2⟩ m := fun i hi => by
  have hi' : i < n2 := hi
  rcases h with ⟨_, h0, _⟩ | ⟨g, rfl, ⟨fz, hg, hz⟩, g1, g2, _⟩
  · omega
  · have hil : i < cur.length := by omega
    refine ⟨g, cur[i], rfl, ?_, ht _ ?_⟩
    · rw [cell_of_block hg]; simp [hil]
    · rw [List.mem_take_iff_getElem]
      exact ⟨i, by omega, rfl⟩
theorem take_of_HFill {κ : Kd} {F : Nat} {w : World} {h : Hd} {cur : List Value} {m : Nat} (hs : SK κ.el w h.a h.n h.c cur) (hf : HFill κ F w h m) : ∀ u ∈ cur.take h.n, Good κ F w m u := fun u hu => by
  rw [List.mem_take_iff_getElem] at hu
  obtain ⟨i, hi, rfl⟩ := hu
  obtain ⟨g', v, e, hc, hv⟩ := hf i (by omega)
  rcases hs with ⟨hs, _⟩ | ⟨g, ha, ⟨fz, hg, hz⟩, h1, h2, _⟩
  · rw [hs] at e; cases e
  · rw [ha] at e
    cases e
    rw [cell_of_block hg] at hc
    have hil : i < cur.length := by omega
    simp [hil] at hc
    rw [hc]; exact hv

theorem Good.below' {κ : Kd} {F : Nat} {w w' : World} {m : Nat} {v : Value} (h : Good κ F w m v) (hb : Below w.heap.size w w') : Good κ F w' m v := h.below hb
theorem Good.quiet {κ : Kd} {F : Nat} {w : World} {m : Nat} {v : Value} (h : Good κ F w m v) (n : Nat) : Good κ F (w.drewN n) m v := h.below (below_drewN (Below.refl _ _) n)
/-- A list l, grown by t marks, from the world W on. -/
def GrowSt (κ : Kd) (F : Nat) (W w : World) (B : Nat) (l : Hd) (m : Nat) (t : Nat) (a : Option Addr) (c : Nat) : Prop :=
  (∀ k, l.a = some ⟨k, 0, none⟩ → k < W.heap.size ∧ k < F) ∧ Touch (fun k => l.a = some ⟨k, 0, none⟩) W w ∧ HOk κ w B l ∧ HFill κ F w l m ∧ ∃ cur, SK κ.el w a (l.n + t) c cur ∧ (∀ u ∈ cur.take (l.n + t), Good κ F w m u) ∧
    ((a = l.a ∧ c = l.c) ∨ ∃ g, a = some ⟨g, 0, none⟩ ∧ W.heap.size ≤ g)
theorem GrowSt.start {κ : Kd} {F : Nat} {W : World} {B : Nat} {l : Hd} {m : Nat} (h : HOk κ W B l) (hf : HFill κ F W l m) (hl : ∀ k, l.a = some ⟨k, 0, none⟩ → k < F) : GrowSt κ F W W B l m 0 l.a l.c := by
  have h' := h
  obtain ⟨cur, s, _⟩ := h'
  refine ⟨fun k hk => ⟨?_, hl k hk⟩, Touch.refl _ _, h, hf, cur, s, take_of_HFill s hf, .inl ⟨rfl, rfl⟩⟩
  obtain ⟨_, hc, _⟩ := h.block hk
  exact lt_of_heap hc
theorem SK.below {e : TypeId} {w w' : World} {a : Option Addr} {n c : Nat} {cur : List Value} (h : SK e w a n c cur) (hb : Below w.heap.size w w') : SK e w' a n c cur := h.touch (Touch.of_below (S := fun _ => False) hb) (fun _ _ => id)
theorem HOk.below {κ : Kd} {w w' : World} {B : Nat} {h : Hd} (hh : HOk κ w B h) (hb : Below w.heap.size w w') : HOk κ w' B h := hh.touch (Touch.of_below (S := fun _ => False) hb) (fun _ _ => id)
theorem GrowSt.below {κ : Kd} {F : Nat} {W w w' : World} {B : Nat} {l : Hd} {m : Nat} {t : Nat} {a : Option Addr} {c : Nat} (h : GrowSt κ F W w B l m t a c) (hb : Below w.heap.size w w') : GrowSt κ F W w' B l m t a c := by
  obtain ⟨h0, h1, h2, h3, cur, h4, h5, h6⟩ := h
  exact ⟨h0, h1.trans (Touch.of_below hb), h2.below hb, h3.below hb, cur, h4.below hb, fun u hu => (h5 u hu).below hb, h6⟩
theorem GrowSt.step {κ : Kd} {F : Nat} {W w w' : World} {B : Nat} {l : Hd} {m : Nat} {t : Nat} {a a' : Option Addr} {c c' : Nat} {cur' : List Value} {v : Value} (h : GrowSt κ F W w B l m t a c) (hv : Good κ F w m v)
    (cur : List Value) (hs : SK κ.el w a (l.n + t) c cur) (hs' : SK κ.el w' a' (l.n + t + 1) c' cur') (ht' : cur'.take (l.n + t + 1) = cur.take (l.n + t) ++ [v])
    (hd : (a' = a ∧ c' = c ∧ l.n + t < c ∧ ∀ g, a = some ⟨g, 0, none⟩ → Touch (fun k => k = g) w w') ∨ (a' = some ⟨w.heap.size, 0, none⟩ ∧ Below w.heap.size w w')) : GrowSt κ F W w' B l m (t + 1) a' c' := by
  obtain ⟨h0, h1, h2, h3, cur0, h4, h5, h6⟩ := h
  have hcc : cur.take (l.n + t) = cur0.take (l.n + t) := by
    rcases hs with ⟨e1, e2, _, e4⟩ | ⟨g, e1, ⟨fz1, hg, _⟩, _⟩
    · rw [e2]; rfl
    · rcases h4 with ⟨f1, _⟩ | ⟨g', f1, ⟨fz2, hg', _⟩, _⟩
      · rw [e1] at f1; cases f1
      · rw [e1] at f1; cases f1
        rw [hg] at hg'
        have := (Obj.cells.inj (Option.some.inj hg')).1
        have e : cur = cur0 := by simpa using this
        rw [e]
  rw [← hcc] at h5
  have hall : ∀ u ∈ cur'.take (l.n + (t + 1)), Good κ F w m u := take_snoc_good h5 hv ht'
  rcases hd with ⟨rfl, rfl, hlt, hT⟩ | ⟨rfl, hb⟩
  · rcases hs' with ⟨_, e, _⟩ | ⟨g, ga, ⟨fz4, hgc, hz4⟩, g1, g2, g3⟩
    · omega
    have hTT := hT g ga
    obtain ⟨fz5, hgw⟩ : ∃ fz5, w.heap[g]? = some (.cells cur.toArray κ.el fz5) := by
      rcases hs with ⟨e, _⟩ | ⟨g', e, ⟨fz5, hg', _⟩, _⟩
      · rw [e] at ga; cases ga
      · rw [e] at ga; cases ga; exact ⟨fz5, hg'⟩
    have hgood : ∀ u, Good κ F w m u → Good κ F w' m u := fun u hu => hu.own hTT hgw
    have hall' : ∀ u ∈ cur'.take (l.n + (t + 1)), Good κ F w' m u := fun u hu => hgood u (hall u hu)
    have hsk : SK κ.el w' a' (l.n + (t + 1)) c' cur' := .inr ⟨g, ga, ⟨fz4, hgc, hz4⟩, g1, g2, g3⟩
    rcases h6 with ⟨rfl, rfl⟩ | ⟨g', e', hg⟩
    · refine ⟨h0, h1.trans (hTT.weaken (fun k _ hk => by rw [hk]; exact ga)), ?_, ?_, cur', hsk, hall', .inl ⟨rfl, rfl⟩⟩
      · obtain ⟨_, _, hB⟩ := h2
        exact ⟨cur', .inr ⟨g, ga, ⟨fz4, hgc, hz4⟩, by omega, g2, g3⟩, hB⟩
      · exact HFill.of_take (c2 := l.c) hsk hall' (by omega)
    · rw [e'] at ga; cases ga
      have hlk : ∀ k, l.a = some ⟨k, 0, none⟩ → k ≠ g := fun k hk e => by have := (h0 k hk).1; omega
      exact ⟨h0, h1.andThen hTT (fun k hk => .inr (by rw [hk]; exact hg)), h2.touch hTT (fun k hk e => hlk k hk e), h3.touch hTT (fun k hk e => hlk k hk e) hgood, cur', hsk, hall', .inr ⟨g, e', hg⟩⟩
  · refine ⟨h0, h1.trans (Touch.of_below hb), h2.below hb, h3.below hb, cur', hs', fun u hu => (hall u hu).below hb, .inr ⟨_, rfl, h1.size⟩⟩

theorem GrowSt.good {κ : Kd} {F : Nat} {W w : World} {B : Nat} {l : Hd} {m : Nat} {t : Nat} {a : Option Addr} {c : Nat} (h : GrowSt κ F W w B l m t a c) {κ' : Kd} {m' : Nat} {v : Value} (hv : Good κ' F W m' v) : Good κ' F w m' v := hv.touch h.2.1 (fun k hk => (h.1 k hk).2)
theorem Part.grown {κ : Kd} {F : Nat} {W w : World} {B : Nat} {bs : Value} {H : List Hl} (h : Part κ W B bs H) (j : Nat) (hj : j < H.length) {m : Nat} {t : Nat} {a : Option Addr} {c : Nat} (hg : GrowSt κ F W w B H[j].l m t a c) : Part κ w B bs H := by
  obtain ⟨h0, h1, h2, h3, _⟩ := hg
  refine ⟨owns_touch h.row h1 (fun k hk e => ?_), fun i hi => ?_, h.apart, h.num, h.few⟩
  · obtain ⟨cur, hc, _⟩ := (h.ok j hj).block e
    obtain ⟨cur2, hc2⟩ := owns_block h.row hk
    exact ty_ne hc2 hc (κ.types κ).1 rfl
  · by_cases hij : i = j
    · subst hij; exact h2
    · exact (h.ok i hi).touch h1 (fun g hg e => h.apart i j hi hj hij g hg e)
theorem HFill.grown {κ : Kd} {F : Nat} {W w : World} {B : Nat} {l y : Hd} {m m' : Nat} {t : Nat} {a : Option Addr} {c : Nat} (hg : GrowSt κ F W w B l m t a c) (h : HFill κ F W y m') (hne : ∀ k, y.a = some ⟨k, 0, none⟩ → l.a ≠ some ⟨k, 0, none⟩) : HFill κ F w y m' :=
  h.touch hg.2.1 (fun k hk e2 => hne k hk e2) (fun v hv => hg.good hv)
theorem setL (H : List Hl) (j : Nat) (hj : j < H.length) (g : Hd) (i : Nat) (hi : i < (H.set j { H[j] with g := g }).length) (hi' : i < H.length) : (H.set j { H[j] with g := g })[i].l = H[i].l ∧ (H.set j { H[j] with g := g })[i].m = H[i].m ∧ (i ≠ j → (H.set j { H[j] with g := g })[i].g = H[i].g) ∧ (i = j → (H.set j { H[j] with g := g })[i].g = g) := by
  rw [List.getElem_set]
  by_cases h : j = i
  · subst h; rw [if_pos rfl]; exact ⟨rfl, rfl, fun e => absurd rfl e, fun _ => rfl⟩
  · rw [if_neg h]; exact ⟨rfl, rfl, fun _ => rfl, fun e => absurd e.symm h⟩
theorem Part.setG {κ : Kd} {w : World} {B gr c : Nat} {H : List Hl} (h : Part κ w B (.slice (some ⟨gr, 0, none⟩) H.length c) H) (j : Nat) (hj : j < H.length) (g : Hd) :
    Part κ (w.setCell ⟨gr, j * 3 + 1, none⟩ g.val) B (.slice (some ⟨gr, 0, none⟩) H.length c) (H.set j { H[j] with g := g }) ∧ B ≤ gr ∧ (∃ cur, w.heap[gr]? = some (.cells cur κ.hd (0, 0)) ∧ j * 3 + 1 < cur.size) := by
  obtain ⟨hl, hr⟩ := h.row
  rcases hr with ⟨e, _⟩ | ⟨gr', cap, cur, e, hB, hg, hnc, hcm, hcs, htk⟩
  · cases e
  cases e
  have ht : Touch (fun k => k = gr) w (w.setCell ⟨gr, j * 3 + 1, none⟩ g.val) := (Touch.refl _ _).setCell _ _ (.inl rfl)
  have hsz : j * 3 + 1 < cur.size := by rw [hcs]; omega
  refine ⟨⟨?_, fun i hi => ?_, fun i k hi hk hik x hx => ?_, fun i hi => ?_, by simpa using h.few⟩, hB, cur, hg, hsz⟩
  · rw [List.length_set]
    refine ⟨by rw [hcells_length, List.length_set], .inr ⟨gr, c, cur.set (j * 3 + 1) g.val hsz, rfl, hB, ?_, hnc, hcm, by simpa using hcs, ?_⟩⟩
    · rw [heap_setCell_same _ _ _ _ _ _ hg]
      simp [Array.setIfInBounds, hsz]
    · rw [hcells_set H j hj g, ← htk, Nat.mul_comm 3 j]
      simp [List.take_set]
  · have hi' : i < H.length := by simpa using hi
    rw [(setL H j hj g i hi hi').1]
    exact (h.ok i hi').touch ht (fun x hx e => by
      obtain ⟨cur2, hg', _⟩ := (h.ok i hi').block hx
      exact ty_ne hg' hg (Ne.symm (κ.types κ).1) e)
  · have hi' : i < H.length := by simpa using hi
    have hk' : k < H.length := by simpa using hk
    rw [(setL H j hj g i hi hi').1] at hx
    rw [(setL H j hj g k hk hk').1]
    exact h.apart i k hi' hk' hik x hx
  · have hi' : i < H.length := by simpa using hi
    rw [(setL H j hj g i hi hi').2.1]
    exact h.num i hi'

/-- What is grown of the first j. -/
structure Grown (κ : Kd) (F : Nat) (W w : World) (H : List Hl) (j : Nat) : Prop where
  low : ∀ i (hi : i < H.length), ∀ k, H[i].l.a = some ⟨k, 0, none⟩ → k < W.heap.size ∧ k < F
  lists : ∀ i (hi : i < H.length), HFill κ F w H[i].l H[i].m
  longs : ∀ i (hi : i < H.length), i < j → HFill κ F w H[i].g H[i].m ∧ H[i].g.n = H[i].l.n + 40 ∧ ∀ k, H[i].g.a = some ⟨k, 0, none⟩ → H[i].l.a = some ⟨k, 0, none⟩ ∨ W.heap.size ≤ k
  size : W.heap.size ≤ w.heap.size
theorem grown_below {κ : Kd} {F : Nat} {W w w' : World} {H : List Hl} {j : Nat} (h : Grown κ F W w H j) (hb : Below w.heap.size w w') : Grown κ F W w' H j :=
  ⟨h.low, fun i hi => (h.lists i hi).below hb, fun i hi hj => ⟨(h.longs i hi hj).1.below hb, (h.longs i hi hj).2⟩, Nat.le_trans h.size hb.size⟩
/-- One more list is grown. -/
theorem grown_step {κ : Kd} {F : Nat} {W w w' : World} {B gr c : Nat} {H : List Hl} {j : Nat} (h : Grown κ F W w H j) (hk : Part κ w B (.slice (some ⟨gr, 0, none⟩) H.length c) H) (hgrW : gr < W.heap.size ∧ gr < F) (hj : j < H.length) {a : Option Addr} {c' : Nat} (hg : GrowSt κ F w w' B H[j].l H[j].m 40 a c') :
    Grown κ F W (w'.setCell ⟨gr, j * 3 + 1, none⟩ (Hd.val ⟨a, H[j].l.n + 40, c'⟩)) (H.set j { H[j] with g := ⟨a, H[j].l.n + 40, c'⟩ }) (j + 1) := by
  have hk' := hk.grown j hj hg
  obtain ⟨_, _, cur0, hgr, _⟩ := hk'.setG j hj ⟨a, H[j].l.n + 40, c'⟩
  have htg : Touch (fun k => k = gr) w' (w'.setCell ⟨gr, j * 3 + 1, none⟩ (Hd.val ⟨a, H[j].l.n + 40, c'⟩)) := (Touch.refl _ _).setCell _ _ (.inl rfl)
  have hcell : ∀ {y : Hd} {m : Nat}, (∀ k, y.a = some ⟨k, 0, none⟩ → k ≠ gr) → HFill κ F w' y m → HFill κ F (w'.setCell ⟨gr, j * 3 + 1, none⟩ (Hd.val ⟨a, H[j].l.n + 40, c'⟩)) y m := fun hu hf =>
    hf.touch htg (fun k hk e => hu k hk e) (fun v hv => hv.touch htg (fun k hk => by rw [hk]; exact hgrW.2))
  have hlu : ∀ i (hi : i < H.length), ∀ k, H[i].l.a = some ⟨k, 0, none⟩ → k ≠ gr := fun i hi k hk2 => by
    obtain ⟨cur, hg', _⟩ := (hk'.ok i hi).block hk2
    exact ty_ne hg' hgr (Ne.symm (κ.types κ).1)
  obtain ⟨g0, g1, g2, g3, cur, g4, g5, g6⟩ := hg
  have hgs : GrowSt κ F w w' B H[j].l H[j].m 40 a c' := ⟨g0, g1, g2, g3, cur, g4, g5, g6⟩
  have hlong : HFill κ F w' ⟨a, H[j].l.n + 40, c'⟩ H[j].m := HFill.of_take g4 g5 (Nat.le_refl _)
  have hlists : ∀ i (hi : i < H.length), HFill κ F w' H[i].l H[i].m := fun i hi => by
    by_cases hij : i = j
    · subst hij; exact g3
    · exact (h.lists i hi).grown hgs (fun k hk2 => hk.apart i j hi hj hij k hk2)
  refine ⟨fun i hi k hk2 => ?_, fun i hi => ?_, fun i hi hij => ?_, ?_⟩
  · have hi' : i < H.length := by simpa using hi
    rw [(setL H j hj _ i hi hi').1] at hk2
    exact h.low i hi' k hk2
  · have hi' : i < H.length := by simpa using hi
    rw [(setL H j hj _ i hi hi').1, (setL H j hj _ i hi hi').2.1]
    exact hcell (hlu i hi') (hlists i hi')
  · have hi' : i < H.length := by simpa using hi
    obtain ⟨e1, e2, e3, e4⟩ := setL H j hj ⟨a, H[j].l.n + 40, c'⟩ i hi hi'
    rw [e1, e2]
    by_cases hj2 : i = j
    · subst hj2
      rw [e4 rfl]
      refine ⟨hcell (fun k hk2 => ?_) hlong, rfl, fun k hk2 => ?_⟩
      · rcases g6 with ⟨g6, _⟩ | ⟨g, g6, hW⟩
        · exact hlu i hi' k (by rw [← g6]; exact hk2)
        · have hk3 : a = some ⟨k, 0, none⟩ := hk2
          rw [g6] at hk3; cases hk3
          have := h.size
          omega
      · rcases g6 with ⟨g6, _⟩ | ⟨g, g6, hW⟩
        · exact .inl (by rw [← g6]; exact hk2)
        · have hk3 : a = some ⟨k, 0, none⟩ := hk2
          rw [g6] at hk3; cases hk3
          exact .inr (Nat.le_trans h.size hW)
    · rw [e3 hj2]
      obtain ⟨l1, l2, l3⟩ := h.longs i hi' (by omega)
      have hne : ∀ k, H[i].g.a = some ⟨k, 0, none⟩ → k ≠ gr ∧ H[j].l.a ≠ some ⟨k, 0, none⟩ := fun k hk2 => by
        rcases l3 k hk2 with l4 | l4
        · exact ⟨hlu i hi' k l4, hk.apart i j hi' hj hj2 k l4⟩
        · exact ⟨by omega, fun e => by have := h.low j hj k e; omega⟩
      exact ⟨hcell (fun k hk2 => (hne k hk2).1) (l1.grown hgs (fun k hk2 => (hne k hk2).2)), l2, l3⟩
  · have : (w'.setCell ⟨gr, j * 3 + 1, none⟩ (Hd.val ⟨a, H[j].l.n + 40, c'⟩)).heap.size = w'.heap.size := by simp [World.setCell]
    rw [this]
    exact Nat.le_trans h.size g1.size

end Go.Proofs.YthadgnaaipdpaaaGreatDoor
