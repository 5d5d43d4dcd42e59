/- A book of four kinds: what a list told to it leaves; one element behind a list; conditions: those typed. -/
import Derived.Test.YthadgnaaipdpaaaGreatDoorKBa
namespace Go.Proofs.YthadgnaaipdpaaaGreatDoor
open Go.RowKit
set_option linter.unusedVariables false
set_option linter.unusedSimpArgs false
set_option maxRecDepth 100000

/-- The book's own blocks. -/
def BkS (w : World) (B k : Nat) : Prop := B ≤ k ∧ ∃ cur t fz, w.heap[k]? = some (.cells cur t fz) ∧ (t = 54 ∨ ∃ κ : Kd, t = κ.hd)
theorem At.row3 (w : World) (u v x : Value) (e : TypeId) : At (w.alloc (.cells #[u, v, x] e)) (some ⟨w.heap.size, 0, none⟩) [u, v, x] := At.of_cells fun j hj => by
  rw [cell_of_block (heap_new w _), Nat.zero_add]
  simp at hj
  match j, hj with
  | 0, _ => rfl
  | 1, _ => rfl
  | 2, _ => rfl
theorem one3 (a : Option Addr) (n c : Nat) (x : Int) : ∀ u ∈ [Value.slice a n c, .slice none 0 0, .int .i64 x], u.oneCell' = true := by intro v hv; simp at hv; rcases hv with rfl | rfl | rfl <;> rfl
theorem grown_touch {w u w' : World} {row : Option Nat} (hb : Below w.heap.size w u) (hg : u.grownBy w' row) : Touch (fun k => row = some k) w w' :=
  (Touch.of_below (S := fun k => row = some k) hb).grown hg (fun k hk => .inl hk)
theorem Part.below {κ : Kd} {w w' : World} {B : Nat} {bs : Value} {H : List Hl} (h : Part κ w B bs H) (hb : Below w.heap.size w w') : Part κ w' B bs H := h.touch (Touch.of_below (S := fun _ => False) hb) (fun _ h => h.elim)

theorem bk_keep_end {κ : Kd} {w w1 w8 : World} {B bk N : Nat} {bs : Kd → Value} {bo b8 : Option Addr} {bc c8 : Nat} {H : Kd → List Hl} {x : Hd} (h : Bk w B bk N bs H) (hbs : bs κ = .slice bo (H κ).length bc) (hx : HOk κ w B x) (hap : ∀ i (hi : i < (H κ).length), ∀ g, (H κ)[i].l.a = some ⟨g, 0, none⟩ → x.a ≠ some ⟨g, 0, none⟩) (hN : N < 1000000) (hH : (H κ).length < 1000000)
    (ht1 : Touch (fun k => k = bk) w w1) (ht8 : Touch (fun k => (Value.slice bo (H κ).length bc).ownBlock = some k) w1 w8) (hb8 : w8.heap[bk]? = some (.cells (bookC (N + 1) bs) 54 (0, 0)))
    (hown : w8.ownsRow B κ.hd 3 (.slice b8 ((H κ).length + 1) c8) ((H κ).length + 1) (hcells (H κ) ++ [.slice x.a x.n x.c, .slice none 0 0, .int .i64 ((N : Int) + 1)])) :
    Touch (BkS w B) w (w8.setCell ⟨bk, κ.ix, none⟩ (.slice b8 ((H κ).length + 1) c8)) ∧ Bk (w8.setCell ⟨bk, κ.ix, none⟩ (.slice b8 ((H κ).length + 1) c8)) B bk (N + 1) (updK bs κ (.slice b8 ((H κ).length + 1) c8)) (updK H κ (H κ ++ [⟨x, ⟨none, 0, 0⟩, N + 1⟩])) := by
  have hP := h.part κ
  rw [hbs] at hP
  have hbkS : BkS w B bk := ⟨h.le, _, _, _, h.book, .inl rfl⟩
  have hrow : ∀ k, (Value.slice bo (H κ).length bc).ownBlock = some k → B ≤ k ∧ ∃ cur, w.heap[k]? = some (.cells cur κ.hd) := fun k hk => ⟨(hP.row.lt k hk).1, owns_block hP.row hk⟩
  have hrowS : ∀ k, (Value.slice bo (H κ).length bc).ownBlock = some k → BkS w B k := fun k hk => by
    obtain ⟨h1, cur, hc⟩ := hrow k hk
    exact ⟨h1, cur, _, _, hc, .inr ⟨κ, rfl⟩⟩
  obtain ⟨W, hW⟩ : ∃ W, W = w8.setCell ⟨bk, κ.ix, none⟩ (.slice b8 ((H κ).length + 1) c8) := ⟨_, rfl⟩
  have ht9 : Touch (fun k => k = bk) w8 W := by rw [hW]; exact (Touch.refl _ _).setCell _ _ (.inl rfl)
  have hT0 : Touch (fun k => k = bk ∨ (Value.slice bo (H κ).length bc).ownBlock = some k) w W :=
    ((ht1.weaken (fun k _ hk => .inl hk)).trans (ht8.weaken (fun k _ hk => .inr hk))).trans (ht9.weaken (fun k _ hk => .inl hk))
  have hT : Touch (BkS w B) w W := hT0.weaken (fun k _ hk => by
    rcases hk with hk | hk
    · rw [hk]; exact hbkS
    · exact hrowS k hk)
  have hel : ∀ (κ' : Kd) {y : Hd}, HOk κ' w B y → HOk κ' W B y := fun κ' {y} hy => hy.touch hT0 (fun g hg e => by
    obtain ⟨cur, hc, _⟩ := hy.block hg
    rcases e with e | e
    · exact ty_ne hc h.book (κ'.types κ').2.2.1 e
    · obtain ⟨_, cur2, hc2⟩ := hrow g e
      exact ty_ne hc2 hc (κ.types κ').1 rfl)
  rw [← hW]
  refine ⟨hT, h.le, ?_, fun κ' => ?_⟩
  · rw [hW, heap_setCell_same _ _ _ _ _ _ hb8]; cases κ <;> rfl
  · rcases Kd.dec κ' κ with e | e
    · subst e
      rw [updK_self, updK_self]
      refine ⟨?_, fun i hi => ?_, fun i j hi hj hij g hg => ?_, fun i hi => ?_, by simp; omega⟩
      · rw [List.length_append, List.length_singleton, hcells_snoc]
        refine owns_touch ?_ ht9 (fun k hk e => ?_)
        · have e1 : (Hl.cells ⟨x, ⟨none, 0, 0⟩, N + 1⟩) = [.slice x.a x.n x.c, .slice none 0 0, .int .i64 ((N : Int) + 1)] := by simp [Hl.cells, Hd.val]
          rw [e1]; exact hown
        · obtain ⟨cur, hc⟩ := owns_block hown hk
          exact ty_ne hc hb8 (κ'.types κ').2.1 e
      · by_cases hil : i < (H κ').length
        · rw [List.getElem_append_left hil]; exact hel _ ((h.part κ').ok i hil)
        · have : i = (H κ').length := by simp at hi; omega
          subst this
          rw [List.getElem_append_right (Nat.le_refl _)]
          simp; exact hel _ hx
      · by_cases hil : i < (H κ').length
        · rw [List.getElem_append_left hil] at hg
          by_cases hjl : j < (H κ').length
          · rw [List.getElem_append_left hjl]; exact (h.part κ').apart i j hil hjl hij g hg
          · have : j = (H κ').length := by simp at hj; omega
            subst this
            rw [List.getElem_append_right (Nat.le_refl _)]
            simp; exact hap i hil g hg
        · have : i = (H κ').length := by simp at hi; omega
          subst this
          rw [List.getElem_append_right (Nat.le_refl _)] at hg
          simp at hg
          have hjl : j < (H κ').length := by simp at hj; omega
          rw [List.getElem_append_left hjl]
          intro hg2
          exact hap j hjl g hg2 hg
      · by_cases hil : i < (H κ').length
        · rw [List.getElem_append_left hil]; exact (h.part κ').num i hil
        · have : i = (H κ').length := by simp at hi; omega
          subst this
          rw [List.getElem_append_right (Nat.le_refl _)]
          simp; omega
    · rw [updK_ne _ _ _ _ e, updK_ne _ _ _ _ e]
      refine (h.part κ').touch hT0 (fun k hk cur t fz hc => ?_)
      have q1 := κ.types κ'
      have q2 := κ'.types κ
      rcases hk with hk | hk
      · rw [hk, h.book] at hc
        rw [← (Obj.cells.inj (Option.some.inj hc)).2.1]
        exact ⟨Ne.symm q2.2.2.1, Ne.symm q2.2.1⟩
      · obtain ⟨_, cur2, hc2⟩ := hrow k hk
        rw [hc2] at hc
        rw [← (Obj.cells.inj (Option.some.inj hc)).2.1]
        exact ⟨q1.1, (q1.2.2.2 (Ne.symm e)).1⟩

theorem run_append1 (κ : Kd) (w : World) (ty : TypeId) (a : Option Addr) (n c : Nat) (cur : List Value) (h : SK κ.el w a n c cur) (bo : Addr) (v : Value) (hv : w.cell? bo = some v) (h1 : v.oneCell' = true) (hn : n ≤ 1000000000) :
    ∃ a' c' cur' w', (Builtin.append_ #[κ.ls, κ.ls] ty #[.slice a n c, .slice (some bo) 1 1]).run Tryz.prog w = .ok (.slice a' (n + 1) c') w' ∧ SK κ.el w' a' (n + 1) c' cur' ∧ cur'.take (n + 1) = cur.take n ++ [v] ∧
      ((a' = a ∧ c' = c ∧ n < c ∧ ∀ g, a = some ⟨g, 0, none⟩ → Touch (fun k => k = g) w w') ∨ (a' = some ⟨w.heap.size, 0, none⟩ ∧ Below w.heap.size w w')) := by
  obtain ⟨i, hi, hz, hs, hb⟩ := info_parts (rowE κ).info
  have ht := (rowE κ).ht
  have hsz : κ.z.cells.size = 1 := by cases κ <;> rfl
  have hsb : κ.sz ≤ 24 := by cases κ <;> decide
  have hnews : ∀ j u, [v][j]? = some u → w.cell? (bo.add j) = some u := by
    intro j u hu
    match j, hu with
    | 0, hu => simp at hu; subst hu; simpa [Addr.add] using hv
  have h1' : ∀ u ∈ [v], u.oneCell' = true := fun u hu => by simp at hu; subst hu; exact h1
  rcases h with ⟨rfl, rfl, rfl, rfl⟩ | ⟨g, rfl, ⟨fz, hg, hzf⟩, hnc, hcl, hcm⟩
  · have hr := run_append_nil (P := Tryz.prog) w κ.ls ty κ.el i _ ht hi hz bo 1 1 [v] (by rw [hs]; rfl) hnews (by decide) (by decide) (by rw [hb]; omega)
    have hge := grownCap_ge w 1 0 κ.el
    have hcm : grownCap w 1 0 κ.el ≤ maxLen := grownCap_le_maxLen w 1 0 κ.el (by decide)
    refine ⟨_, _, ([v] ++ (Builtin.zeroCells κ.z.cells (grownCap w 1 0 κ.el - 1)).toList), _, hr, .inr ⟨w.heap.size, rfl, ⟨_, ?_, .inl rfl⟩, by omega, ?_, hcm⟩, ?_, .inr ⟨rfl, ((Below.refl _ w).drew).alloc (by simp) _⟩⟩
    · exact (heap_new w.drew _).trans (by simp)
    · simp only [List.length_append, List.length_singleton, Array.length_toList, size_zeroCells, hsz]
      omega
    · simp
  · by_cases hroom : n + 1 ≤ c
    · have hnl : n < cur.length := by omega
      have hfr : w.frozen? ⟨g, n, none⟩ = false := by
        rcases hzf with rfl | hz
        · simp [World.frozen?, hg]
        · obtain ⟨lo, hi⟩ := fz
          dsimp only at hz
          simp [World.frozen?, hg]
          omega
      have hr := run_append_room_cells (P := Tryz.prog) (w := w) κ.ls ty κ.el i ht hi g 0 n c bo 1 1 [v] (by rw [hs]; rfl) hnews h1' hroom (fun j hj => by
        have : j = 0 := by simpa using hj
        subst this
        rw [hs, cell_of_block hg]; simp [hnl]) (fun j hj => by
        have : j = 0 := by simpa using hj
        subst this
        rw [hs]; simpa using hfr)
      have hw : w.setCells g (0 + n * i.size) [v] = w.setCell ⟨g, n, none⟩ v := by rw [hs]; simp [World.setCells]
      rw [hw] at hr
      refine ⟨_, _, cur.set n v, _, hr, .inr ⟨g, rfl, ⟨fz, ?_, by simpa using hzf⟩, hroom, by simpa using hcl, hcm⟩, ?_, .inl ⟨rfl, rfl, by omega, fun g' e => by cases e; exact (Touch.refl _ w).setCell _ _ (.inl rfl)⟩⟩
      · rw [heap_set_fz _ _ _ _ _ _ _ hg]; simp
      · rw [List.take_add_one, List.take_set_of_le (Nat.le_refl _)]
        simp [hnl]
    · have hold : ∀ j u, (cur.take n)[j]? = some u → w.cell? ((⟨g, 0, none⟩ : Addr).add j) = some u := fun j u hu => by
        rw [Addr.add_mid, cell_of_block hg]
        have hj := (List.getElem?_eq_some_iff.1 hu).1
        rw [List.getElem?_take] at hu
        split at hu
        · simpa using hu
        · cases hu
      have hr := run_append_grow (P := Tryz.prog) w κ.ls ty κ.el i _ ht hi hz ⟨g, 0, none⟩ n c (cur.take n) (by rw [hs]; simp; omega) hold bo 1 1 [v] (by rw [hs]; rfl) hnews (by omega) (by omega) (growslice_fits (by omega) (by rw [hb]; exact Nat.le_trans (Nat.mul_le_mul_left _ hsb) (by omega)))
      have hge := grownCap_ge w (n + 1) c κ.el
      have hcm2 : grownCap w (n + 1) c κ.el ≤ maxLen := grownCap_le_maxLen w (n + 1) c κ.el (by unfold maxLen; omega)
      refine ⟨_, _, (cur.take n ++ [v] ++ (Builtin.zeroCells κ.z.cells (grownCap w (n + 1) c κ.el - (n + 1))).toList), _, hr, .inr ⟨w.heap.size, rfl, ⟨_, ?_, .inl rfl⟩, by omega, ?_, hcm2⟩, ?_, .inr ⟨rfl, ((Below.refl _ w).drew).alloc (by simp) _⟩⟩
      · exact (heap_new w.drew _).trans (by simp)
      · simp only [List.length_append, List.length_singleton, Array.length_toList, size_zeroCells, List.length_take, hsz]
        omega
      · rw [List.take_append_of_le_length (by simp; omega)]
        exact List.take_of_length_le (by simp; omega)

theorem wpList_append1 (κ : Kd) {w : World} {ops : Array Oper} {rest : List Oper} {o : Oper} {a : Act} {Q : Exit → Act → World → Prop} (hgd : o.guard = none) (s x : Operand)
    (ho : o.op = .call { callee := .builtin .append, args := #[s, x], argTypes := #[κ.ls, κ.ls] }) (p : Option Addr) (n c : Nat) (cur : List Value) (hs : a.eval s = .slice p n c) (h : SK κ.el w p n c cur)
    (bo : Addr) (v : Value) (hx : a.eval x = .slice (some bo) 1 1) (hv : w.cell? bo = some v) (h1 : v.oneCell' = true) (hn : n ≤ 1000000000)
    (hK : ∀ a' c' cur' w', SK κ.el w' a' (n + 1) c' cur' → cur'.take (n + 1) = cur.take n ++ [v] → ((a' = p ∧ c' = c ∧ n < c ∧ ∀ g, p = some ⟨g, 0, none⟩ → Touch (fun k => k = g) w w') ∨ (a' = some ⟨w.heap.size, 0, none⟩ ∧ Below w.heap.size w w')) → wpList Tryz.prog ops Q rest (a.put o.dst (.slice a' (n + 1) c')) w') : wpList Tryz.prog ops Q (o :: rest) a w := by
  refine wpList_plain hgd fun _ hKK => ?_
  obtain ⟨a', c', cur', w', hr, h2, h3, h4⟩ := run_append1 κ w o.type p n c cur h bo v hv h1 hn
  exact Lib.wp_append_run w s x κ.ls κ.ls ho _ _ hs hx _ w' hr (hKK _ _ (hK a' c' cur' w' h2 h3 h4))

end Go.Proofs.YthadgnaaipdpaaaGreatDoor
