/- A twin of a config, told to the book; acts on sessions, in memory; what a play on sessions keeps; conditions: those typed. -/
import Derived.Test.YthadgnaaipdpaaaGreatDoorTwinCfg
import Derived.Test.YthadgnaaipdpaaaGreatDoorKBpC
import Derived.Test.YthadgnaaipdpaaaGreatDoorSessV
import Derived.Test.YthadgnaaipdpaaaGreatDoorSessC
import Derived.Test.YthadgnaaipdpaaaGreatDoorRSn
import Derived.Test.YthadgnaaipdpaaaGreatDoorSameB
namespace Go.Proofs.YthadgnaaipdpaaaGreatDoor
open Go.RowKit
set_option linter.unusedVariables false
set_option linter.unusedSimpArgs false
set_option maxRecDepth 100000

/-! ### the twin of a config -/
theorem TwB.hok {w : World} {B g : Nat} {l : List UInt8} (h : TwB w g l) (hB : B ≤ g) (hm : l.length ≤ 100000000) : HOk .byte w B ⟨some ⟨g, 0, none⟩, l.length, l.length + 1⟩ :=
  ⟨_, .inr ⟨g, rfl, ⟨_, h, .inl rfl⟩, Nat.le_succ _, by simp [bcells_length], by dsimp only; unfold maxLen; omega⟩, fun g' e => by cases e; exact hB⟩
def twHds (gs : List Nat) (L : List (List UInt8)) : List Hd := List.zipWith (fun g (l : List UInt8) => (⟨some ⟨g, 0, none⟩, l.length, l.length + 1⟩ : Hd)) gs L
theorem twHds_len {gs : List Nat} {L : List (List UInt8)} (h : gs.length = L.length) : (twHds gs L).length = L.length := by simp [twHds, h]
theorem twHds_at {gs : List Nat} {L : List (List UInt8)} (i : Nat) (hi : i < (twHds gs L).length) (h1 : i < gs.length) (h2 : i < L.length) : (twHds gs L)[i] = ⟨some ⟨gs[i], 0, none⟩, L[i].length, L[i].length + 1⟩ := by simp [twHds]
def TwC.hd (y : TwC) (c : CfgD) : CfgH := ⟨⟨some ⟨y.r, 0, none⟩, c.r.length, c.r.length + 1⟩, ⟨some ⟨y.g, 0, none⟩, c.s.length, c.s.length + 1⟩, twHds y.gs c.s, ⟨some ⟨y.a, 0, none⟩, c.a.length, c.a.length + 1⟩, ⟨some ⟨y.u, 0, none⟩, c.u.length, c.u.length + 1⟩⟩
theorem TwCfg.ok {w : World} {B : Nat} {y : TwC} {c : CfgD} (h : TwCfg w B y c) (hs : CfgSm c 1048576) (h1 : c.s.length ≤ 1000) : CfgOk w B (fun _ => False) (y.hd c) := by
  obtain ⟨m1, m2, m3, m4, m5⟩ := hs
  have hl : (twHds y.gs c.s).length = c.s.length := twHds_len h.s.len
  have hgl := h.s.len
  have hau := h.au
  have hb : ∀ i (hi : i < (y.hd c).bs.length), (i < c.s.length ∧ ∃ h1 : i < y.gs.length, ∃ h2 : i < c.s.length, (y.hd c).bs[i] = ⟨some ⟨y.gs[i], 0, none⟩, c.s[i].length, c.s[i].length + 1⟩) ∨ (i = c.s.length ∧ (y.hd c).bs[i] = (y.hd c).A) ∨ (i = c.s.length + 1 ∧ (y.hd c).bs[i] = (y.hd c).U) := fun i hi => by
    have hi2 : i < c.s.length + 2 := by have := (y.hd c).bs_len; have e : (y.hd c).S.length = c.s.length := hl; omega
    have eS : (y.hd c).S.length = c.s.length := hl
    by_cases h0 : i < c.s.length
    · refine .inl ⟨h0, by omega, h0, ?_⟩
      obtain ⟨_, e⟩ := (y.hd c).bs_S i (by omega)
      rw [e]
      exact twHds_at i (by omega) (by omega) h0
    · by_cases h2 : i = c.s.length
      · obtain ⟨_, e⟩ := (y.hd c).bs_A
        refine .inr (.inl ⟨h2, ?_⟩)
        rw [← e]; congr 1; omega
      · obtain ⟨_, e⟩ := (y.hd c).bs_U
        refine .inr (.inr ⟨by omega, ?_⟩)
        rw [← e]; congr 1; omega
  refine ⟨⟨_, .inr ⟨y.r, rfl, ⟨_, h.r, .inl rfl⟩, Nat.le_succ _, by simp [TwC.hd, icells_length], by simp only [TwC.hd]; unfold maxLen; omega⟩, fun g e => by cases e; exact h.rB⟩,
    ⟨_, .inr ⟨y.g, rfl, ⟨_, h.s.row, .inl rfl⟩, Nat.le_succ _, by simp [TwC.hd, tslices_length _ _ hgl], by simp only [TwC.hd]; unfold maxLen; omega⟩, fun g e => by cases e; exact h.s.le⟩,
    hl.symm, fun i hi => ?_, fun x hx => ?_, ⟨by simp only [TwC.hd]; omega, fun _ _ h => h⟩, ⟨by simp only [TwC.hd]; omega, fun _ _ h => h⟩, fun i j hi hj hij g e e2 => ?_⟩
  · have hi' : i < c.s.length := by simpa [TwC.hd, hl] using hi
    refine ⟨y.g, rfl, ?_⟩
    rw [cell_of_block h.s.row, List.getElem?_toArray, List.getElem?_append_left (by rw [tslices_length _ _ hgl]; exact hi'), tslices_get _ _ i (by omega) hi']
    have e : (y.hd c).S[i] = ⟨some ⟨y.gs[i]'(by omega), 0, none⟩, c.s[i].length, c.s[i].length + 1⟩ := twHds_at i (by omega) (by omega) hi'
    rw [e]; rfl
  · obtain ⟨i, hi, rfl⟩ := List.getElem_of_mem hx
    rcases hb i hi with ⟨h0, h1, h2, e⟩ | ⟨h0, e⟩ | ⟨h0, e⟩
    · rw [e]
      have hm := m3 c.s[i] (List.getElem_mem h0)
      exact ⟨(h.s.each i h1 h2).1.hok (h.s.each i h1 h2).2 (by omega), by dsimp only; omega, fun _ _ h => h⟩
    · rw [e]; exact ⟨h.a.hok h.aB (by omega), by simp only [TwC.hd]; omega, fun _ _ h => h⟩
    · rw [e]; exact ⟨h.u.hok h.uB (by omega), by simp only [TwC.hd]; omega, fun _ _ h => h⟩
  · rcases hb i hi with ⟨h0, p1, p2, q⟩ | ⟨h0, q⟩ | ⟨h0, q⟩ <;> rcases hb j hj with ⟨k0, r1, r2, s⟩ | ⟨k0, s⟩ | ⟨k0, s⟩ <;> rw [q] at e <;> rw [s] at e2 <;> simp only [TwC.hd] at e e2 <;> cases e
    · simp at e2
      exact h.s.nodup i j p1 r1 hij e2.symm
    · simp at e2
      have := h.sa i p1; omega
    · simp at e2
      have := h.sa i p1; omega
    · simp at e2
      have := h.sa j r1; omega
    · omega
    · (simp at e2) <;> omega
    · simp at e2
      have := h.sa j r1; omega
    · (simp at e2) <;> omega
    · omega

/-! ### acts -/
structure ActT where
  kind : UInt8
  who : UInt8
  sec : List UInt8
  d : List UInt8
  tok : UInt64
  seq : UInt32
  last : UInt32
  rep : List UInt8
instance : Inhabited ActT := ⟨⟨0, 0, [], [], 0, 0, 0, []⟩⟩
structure ActA where
  sa : Option Addr
  sn : Nat
  sc : Nat
  ra : Option Addr
  rn : Nat
  rc : Nat
def ActT.cells (x : ActT) (y : ActA) : List Value := [.int .u8 x.kind.toNat, .int .u8 x.who.toNat, .slice y.sa y.sn y.sc] ++ bcells x.d ++ [.int .u64 x.tok.toNat, .int .u32 x.seq.toNat, .int .u32 x.last.toNat, .slice y.ra y.rn y.rc]
theorem ActT.cells_len (x : ActT) (y : ActA) (hd : x.d.length = 16) : (x.cells y).length = 23 := by simp [ActT.cells, bcells_length, hd]
theorem ActT.cells_one (x : ActT) (y : ActA) : ∀ v ∈ x.cells y, v.oneCell' = true := by
  intro v hv
  unfold ActT.cells at hv
  simp only [List.mem_append, List.mem_cons, List.not_mem_nil, or_false] at hv
  rcases hv with ((rfl | rfl | rfl) | hv) | rfl | rfl | rfl | rfl
  all_goals first | rfl | exact bcells_one _ _ hv
structure IsAct (w : World) (x : ActT) (y : ActA) : Prop where
  s : IsB w y.sa y.sn y.sc x.sec
  r : IsB w y.ra y.rn y.rc x.rep
theorem IsAct.below {w w' : World} {x : ActT} {y : ActA} (h : IsAct w x y) (hb : Below w.heap.size w w') : IsAct w' x y := ⟨h.s.below hb, h.r.below hb⟩
/-- A slice of acts that reads as a list. -/
def IsActT (w : World) (a : Option Addr) (n c : Nat) (L : List ActT) : Prop :=
  n = L.length ∧ L.length ≤ c ∧ c ≤ maxLen ∧ (L = [] ∨ ∃ b off, a = some ⟨b, off, none⟩ ∧ b < w.heap.size ∧ ∀ i (h : i < L.length), L[i].d.length = 16 ∧ ∃ y, w.rangeAt b (off + i * 23) (L[i].cells y) ∧ IsAct w L[i] y)
theorem range_low {w w' : World} {b o : Nat} {cs : List Value} (h : w.rangeAt b o cs) (hb : Below w.heap.size w w') (hlt : b < w.heap.size) : w'.rangeAt b o cs := fun j v hj => (hb.cell (p := ⟨b, _, none⟩) hlt).trans (h j v hj)
theorem IsActT.below {w w' : World} {a : Option Addr} {n c : Nat} {L : List ActT} (h : IsActT w a n c L) (hb : Below w.heap.size w w') : IsActT w' a n c L := by
  obtain ⟨h1, h2, h3, h4 | ⟨b, off, rfl, hlt, hc⟩⟩ := h
  · exact ⟨h1, h2, h3, .inl h4⟩
  · refine ⟨h1, h2, h3, .inr ⟨b, off, rfl, Nat.lt_of_lt_of_le hlt hb.size, fun i hi => ?_⟩⟩
    obtain ⟨hd, y, c4, hB⟩ := hc i hi
    exact ⟨hd, y, range_low c4 hb hlt, hB.below hb⟩
/-- An act's box. -/
def BxT (w : World) (hx : Nat) (x : ActT) (y : ActA) : Prop := w.heap[hx]? = some (.cells (x.cells y).toArray 33 (0, 0))
theorem ActT.tail (x : ActT) (y : ActA) (hd : x.d.length = 16) (j : Nat) : (x.cells y)[19 + j]? = [Value.int .u64 x.tok.toNat, .int .u32 x.seq.toNat, .int .u32 x.last.toNat, .slice y.ra y.rn y.rc][j]? := by
  unfold ActT.cells
  rw [List.getElem?_append_right (by simp [bcells_length, hd])]
  congr 1
  simp [bcells_length, hd]
theorem BxT.get {w : World} {hx : Nat} {x : ActT} {y : ActA} (h : BxT w hx x y) (hd : x.d.length = 16) : w.cell? ⟨hx, 0, none⟩ = some (.int .u8 x.kind.toNat) ∧ w.cell? ⟨hx, 1, none⟩ = some (.int .u8 x.who.toNat) ∧ w.cell? ⟨hx, 2, none⟩ = some (.slice y.sa y.sn y.sc) ∧ w.cell? ⟨hx, 19, none⟩ = some (.int .u64 x.tok.toNat) ∧ w.cell? ⟨hx, 20, none⟩ = some (.int .u32 x.seq.toNat) ∧ w.cell? ⟨hx, 21, none⟩ = some (.int .u32 x.last.toNat) ∧ w.cell? ⟨hx, 22, none⟩ = some (.slice y.ra y.rn y.rc) := by
  refine ⟨?_, ?_, ?_, ?_, ?_, ?_, ?_⟩ <;> rw [cell_of_block h, List.getElem?_toArray]
  · rfl
  · rfl
  · rfl
  · exact x.tail y hd 0
  · exact x.tail y hd 1
  · exact x.tail y hd 2
  · exact x.tail y hd 3
theorem BxT.draw {w : World} {hx : Nat} {x : ActT} {y : ActA} (h : BxT w hx x y) : w.rangeAt hx 3 (bcells x.d) := fun j v hj => by
  rw [cell_of_block h, List.getElem?_toArray]
  have hj2 := (List.getElem?_eq_some_iff.1 hj).1
  unfold ActT.cells
  rw [List.append_assoc, List.getElem?_append_right (by simp), List.getElem?_append_left (by simpa using hj2)]
  simpa using hj
theorem BxT.touch {S : Nat → Prop} {w w' : World} {hx : Nat} {x : ActT} {y : ActA} (h : BxT w hx x y) (ht : Touch S w w') (hs : ¬ S hx) : BxT w' hx x y := ht.heap h hs
theorem BxT.below {w w' : World} {hx : Nat} {x : ActT} {y : ActA} (h : BxT w hx x y) (hb : Below w.heap.size w w') : BxT w' hx x y := below_heap hb h (lt_of_heap h)

def tsum : List ActT → Nat
  | [] => 0
  | x :: L => 1 + x.sec.length / 20 + x.rep.length / 20 + tsum L
theorem tsum_snoc (L : List ActT) (x : ActT) : tsum (L ++ [x]) = tsum L + (1 + x.sec.length / 20 + x.rep.length / 20) := by
  induction L with
  | nil => simp [tsum]
  | cons y L ih => simp only [List.cons_append, tsum, ih]; omega
theorem tsum_take (L : List ActT) (k : Nat) (hk : k < L.length) : tsum (L.take (k + 1)) = tsum (L.take k) + (1 + L[k].sec.length / 20 + L[k].rep.length / 20) := by
  rw [List.take_succ_eq_append_getElem hk, tsum_snoc]
theorem tsum_le (L : List ActT) (h : ∀ x ∈ L, x.sec.length ≤ 1048576 ∧ x.rep.length ≤ 1048576) : tsum L ≤ L.length * 200000 := by
  induction L with
  | nil => simp [tsum]
  | cons y L ih =>
    have h1 := h y List.mem_cons_self
    have h2 := ih fun x hx => h x (List.mem_cons_of_mem _ hx)
    simp only [tsum, List.length_cons]
    omega
theorem tsum_len (L : List ActT) : L.length ≤ tsum L := by
  induction L with
  | nil => simp [tsum]
  | cons y L ih => simp only [tsum, List.length_cons]; omega
theorem tsum_mem (L : List ActT) (x : ActT) (hx : x ∈ L) : x.sec.length / 20 + x.rep.length / 20 ≤ tsum L := by
  induction L with
  | nil => cases hx
  | cons y L ih =>
    simp only [tsum]
    rcases List.mem_cons.1 hx with rfl | hx
    · omega
    · have := ih hx; omega
def lsum : List (List UInt8) → Nat
  | [] => 0
  | x :: L => x.length / 10 + lsum L
theorem lsum_snoc (L : List (List UInt8)) (x : List UInt8) : lsum (L ++ [x]) = lsum L + x.length / 10 := by
  induction L with
  | nil => simp [lsum]
  | cons y L ih => simp only [List.cons_append, lsum, ih]; omega
theorem lsum_take (L : List (List UInt8)) (k : Nat) (hk : k < L.length) : lsum (L.take (k + 1)) = lsum (L.take k) + L[k].length / 10 := by
  rw [List.take_succ_eq_append_getElem hk, lsum_snoc]
theorem lsum_le (L : List (List UInt8)) (h : ∀ x ∈ L, x.length ≤ 1048576) : lsum L ≤ L.length * 200000 := by
  induction L with
  | nil => simp [lsum]
  | cons y L ih =>
    have h1 := h y List.mem_cons_self
    have h2 := ih fun x hx => h x (List.mem_cons_of_mem _ hx)
    simp only [lsum, List.length_cons]
    omega
theorem lsum_mem (L : List (List UInt8)) (x : List UInt8) (hx : x ∈ L) : x.length / 10 ≤ lsum L := by
  induction L with
  | nil => cases hx
  | cons y L ih =>
    simp only [lsum]
    rcases List.mem_cons.1 hx with rfl | hx
    · omega
    · have := ih hx; omega

/-! ### what a play keeps -/
theorem bkS_noTbl (w : World) (B : Nat) : NoTbl w (BkS w B) := fun k hk => by
  obtain ⟨_, cur, t, fz, hc, ht⟩ := hk
  refine ⟨cur, t, fz, hc, ?_⟩
  rcases ht with rfl | ⟨κ, rfl⟩
  · decide
  · cases κ <;> decide
theorem bkS_noRT (w : World) (B : Nat) : NoRT w (BkS w B) := fun k hk cur t fz hc => by
  rcases bkS_types hk hc with rfl | ⟨κ, rfl⟩
  · decide
  · cases κ <;> decide
theorem roS_one {w : World} {B rt : Nat} {ro : Option Addr} {rc : Nat} {L : List One} (h : IsRT w B rt ro rc L) (hn : 0 < L.length) {k : Nat} (hk : RoS ro k) : ∃ cur, w.heap[k]? = some (.cells cur 79 (0, 0)) ∧ B ≤ k := by
  obtain ⟨rl, cur, e, hg, hB, _⟩ := h.at hn
  unfold RoS at hk
  rw [e] at hk; cases hk
  exact ⟨cur, hg, hB⟩
theorem map_other {w : World} {S : Nat → Prop} (h : MapsOnly S w) : Other w S := fun k hk cur t fz hc => (h.cells hc hk).elim
theorem map_noRT {w : World} {S : Nat → Prop} (h : MapsOnly S w) : NoRT w S := fun k hk cur t fz hc => (h.cells hc hk).elim
theorem roS_other {w : World} {B rt : Nat} {ro : Option Addr} {rc : Nat} {L : List One} (h : IsRT w B rt ro rc L) (hn : 0 < L.length) : Other w (RoS ro) := fun k hk cur t fz hc => by
  obtain ⟨cur2, hg, _⟩ := roS_one h hn hk
  rw [hg] at hc
  have e := (Obj.cells.inj (Option.some.inj hc)).2.1
  subst e
  exact ⟨fun κ => by cases κ <;> decide, by decide⟩
theorem roS_noTbl {w : World} {B rt : Nat} {ro : Option Addr} {rc : Nat} {L : List One} (h : IsRT w B rt ro rc L) (hn : 0 < L.length) : NoTbl w (RoS ro) := fun k hk => by
  obtain ⟨cur2, hg, _⟩ := roS_one h hn hk
  exact ⟨_, _, _, hg, by decide, by decide, by decide⟩
structure SSt (W w : World) (bt b1 b2 b3 rt : Nat) (ro : Option Addr) (rc bk : Nat) (T : Tbl) (L : List One) (n c : Nat) : Prop where
  below : Below W.heap.size W w
  tbl : IsTbl w bt b1 b2 b3 T
  ge : W.heap.size ≤ bt ∧ W.heap.size ≤ b1 ∧ W.heap.size ≤ b2 ∧ W.heap.size ≤ b3
  ref : IsRT w W.heap.size rt ro rc L
  cor : Cor T L n
  book : BkP w W.heap.size bk (fun k => k < w.heap.size) c
theorem SSt.ln {W w : World} {bt b1 b2 b3 rt : Nat} {ro : Option Addr} {rc bk : Nat} {T : Tbl} {L : List One} {n c : Nat} (h : SSt W w bt b1 b2 b3 rt ro rc bk T L n c) : 0 < L.length := by have := h.cor.len; omega
theorem BkP.size {w : World} {B bk : Nat} {c : Nat} {w' : World} (h : BkP w' B bk (fun k => k < w.heap.size) c) (hs : w.heap.size ≤ w'.heap.size) : BkP w' B bk (fun k => k < w'.heap.size) c := h.mono (fun k hk => Nat.lt_of_lt_of_le hk hs) (Nat.le_refl _)
theorem SSt.after {W w w' : World} {bt b1 b2 b3 rt : Nat} {ro : Option Addr} {rc bk : Nat} {T : Tbl} {L : List One} {n c : Nat} (h : SSt W w bt b1 b2 b3 rt ro rc bk T L n c) (hb : Below w.heap.size w w') : SSt W w' bt b1 b2 b3 rt ro rc bk T L n c :=
  ⟨h.below.trans (hb.mono h.below.size), h.tbl.below hb, h.ge, h.ref.below hb, h.cor, (h.book.below hb).size hb.size⟩
theorem SSt.both {W w w1 w2 : World} {bt b1 b2 b3 rt : Nat} {ro : Option Addr} {rc bk : Nat} {T T' : Tbl} {L L' : List One} {n c bm : Nat} (h : SSt W w bt b1 b2 b3 rt ro rc bk T L n c) (hbm : bm = b1 ∨ bm = b2 ∨ bm = b3) (ht1 : Touch (fun k => k = bm) w w1) (htb : IsTbl w1 bt b1 b2 b3 T')
    (ht2 : Touch (RoS ro) w1 w2) (hr : IsRT w2 W.heap.size rt ro rc L') (hc : Cor T' L' n) : SSt W w2 bt b1 b2 b3 rt ro rc bk T' L' n c := by
  have hm : MapsOnly (fun k => k = bm) w := fun k hk => h.tbl.maps k (by subst hk; exact hbm)
  have hge : W.heap.size ≤ bm := by have := h.ge; rcases hbm with e | e | e <;> omega
  have r1 := h.ref.touch ht1 (map_noRT hm)
  have hB1 := h.below.trans (ht1.below h.below.size (fun k hk e => by subst e; omega))
  have hB2 := hB1.trans (ht2.below hB1.size (fun k hk e => by obtain ⟨_, _, h2⟩ := roS_one r1 h.ln e; omega))
  have p1 := (h.book.touch ht1 (map_other hm)).size ht1.size
  exact ⟨hB2, htb.other ht2 (roS_noTbl r1 h.ln), h.ge, hr, hc, (p1.touch ht2 (roS_other r1 h.ln)).size ht2.size⟩
theorem SSt.ref1 {W w w1 : World} {bt b1 b2 b3 rt : Nat} {ro : Option Addr} {rc bk : Nat} {T : Tbl} {L : List One} {n c bm : Nat} (h : SSt W w bt b1 b2 b3 rt ro rc bk T L n c) (hbm : bm = b1 ∨ bm = b2 ∨ bm = b3) (ht1 : Touch (fun k => k = bm) w w1) : IsRT w1 W.heap.size rt ro rc L ∧ Below W.heap.size W w1 := by
  have hm : MapsOnly (fun k => k = bm) w := fun k hk => h.tbl.maps k (by subst hk; exact hbm)
  have hge : W.heap.size ≤ bm := by have := h.ge; rcases hbm with e | e | e <;> omega
  exact ⟨h.ref.touch ht1 (map_noRT hm), h.below.trans (ht1.below h.below.size (fun k hk e => by subst e; omega))⟩
theorem SSt.kept {W w w' : World} {bt b1 b2 b3 rt : Nat} {ro : Option Addr} {rc bk : Nat} {T : Tbl} {L : List One} {n c d : Nat} (h : SSt W w bt b1 b2 b3 rt ro rc bk T L n c) (ht : Touch (BkS w W.heap.size) w w') (hb : BkP w' W.heap.size bk (fun k => k < w'.heap.size) d) : SSt W w' bt b1 b2 b3 rt ro rc bk T L n d :=
  ⟨h.below.trans (ht.below h.below.size (fun k hk e => by have := e.1; omega)), h.tbl.other ht (bkS_noTbl _ _), h.ge, h.ref.touch ht (bkS_noRT _ _), h.cor, hb⟩
/-- A copy of each takes its place; the elder of the program's may still be touched. -/
theorem SSt.copied {W w w1 w2 w3 : World} {bt b1 b2 b3 rt ct c1 c2 c3 rt' : Nat} {ro ro' : Option Addr} {rc bk rc' : Nat} {T : Tbl} {L : List One} {n c : Nat} {S : Nat → Prop} (h : SSt W w bt b1 b2 b3 rt ro rc bk T L n c)
    (hb1 : Below w.heap.size w w1) (ht : IsTbl w1 ct c1 c2 c3 T) (hg : w.heap.size ≤ ct ∧ w.heap.size ≤ c1 ∧ w.heap.size ≤ c2 ∧ w.heap.size ≤ c3)
    (ht2 : Touch S w1 w2) (hs : ∀ k, S k → k = b2) (hb3 : Below w2.heap.size w2 w3) (hr : IsRT w2 W.heap.size rt ro rc L → IsRT w3 W.heap.size rt' ro' rc' L) : SSt W w3 ct c1 c2 c3 rt' ro' rc' bk T L n c := by
  have h1 := h.after hb1
  have hm : MapsOnly S w1 := fun k hk => h1.tbl.maps k (.inr (.inl (hs k hk)))
  have hlt : b2 < w.heap.size := by obtain ⟨es, cc, hb⟩ := h.tbl.maps b2 (.inr (.inl rfl)); exact lt_of_heap hb
  have hn : ∀ k, w.heap.size ≤ k → ¬ S k := fun k hk e => by have := hs k e; omega
  have t2 := ht.keep ht2 hm (hn _ hg.2.1) (hn _ hg.2.2.1) (hn _ hg.2.2.2)
  have hB2 := h1.below.trans (ht2.below h1.below.size (fun k hk e => by have := hs k e; have := h.ge; omega))
  have hsz := h.below.size
  exact ⟨hB2.trans (hb3.mono hB2.size), t2.below hb3, by omega, hr (h1.ref.touch ht2 (map_noRT hm)), h1.cor, (((h1.book.touch ht2 (map_other hm)).size ht2.size).below hb3).size hb3.size⟩

/-- New bytes are a list that the book can be told. -/
theorem NewB.hok {w w' : World} {a : Option Addr} {n c B : Nat} (h : NewB w w' a n c) (hB : B ≤ w.heap.size) : HOk .byte w' B ⟨a, n, c⟩ := by
  rcases h with ⟨rfl, rfl, rfl⟩ | ⟨g, rfl, hg, cur, fz, hc, hz, h1, h2, h3⟩
  · exact ⟨[], .inl ⟨rfl, rfl, rfl, rfl⟩, fun g e => by cases e⟩
  · exact ⟨cur, .inr ⟨g, rfl, ⟨fz, hc, hz⟩, h1, h2, h3⟩, fun g' e => by cases e; omega⟩
theorem NewB.new {w w' : World} {a : Option Addr} {n c : Nat} (h : NewB w w' a n c) : ∀ g, a = some ⟨g, 0, none⟩ → ¬ g < w.heap.size := fun g e => by
  rcases h with ⟨rfl, _⟩ | ⟨g', rfl, hg, _⟩
  · cases e
  · cases e; omega
theorem seqR_short {T : Tbl} {L : List One} {n : Nat} (h : Cor T L n) (k : UInt8) (s l : UInt32) : (T.seqR k s l).length ≤ 1000000 := by
  unfold Tbl.seqR
  split
  · cases hk : T.kept k with
    | none => simp
    | some x =>
      obtain ⟨t, r⟩ := x
      dsimp only
      split
      · exact h.tshort k t r hk
      · simp
  · simp
theorem Cor.tsh {T : Tbl} {L : List One} {n : Nat} (h : Cor T L n) : T.short := fun k s r e => by have := h.tshort k s r e; omega

theorem infoCfg5 : (Tryz.prog.info? 27).map (·.size) = some 5 := by kernel_rfl
theorem zeroCfg5 : (Tryz.prog.info? 27).map (·.zero) = some (some (.agg #[.slice none 0 0, .slice none 0 0, .slice none 0 0, .slice none 0 0, .int .u64 0])) := by kernel_rfl
theorem infoActT : (Tryz.prog.info? 33).map (·.size) = some 23 := by kernel_rfl
theorem zeroActT : (Tryz.prog.info? 33).map (·.zero) = some (some (.agg #[.int .u8 0, .int .u8 0, .slice none 0 0, .int .u8 0, .int .u8 0, .int .u8 0, .int .u8 0, .int .u8 0, .int .u8 0, .int .u8 0, .int .u8 0, .int .u8 0, .int .u8 0, .int .u8 0, .int .u8 0, .int .u8 0, .int .u8 0, .int .u8 0, .int .u8 0, .int .u64 0, .int .u32 0, .int .u32 0, .slice none 0 0])) := by kernel_rfl
theorem infoDraw : (Tryz.prog.info? 30).map (·.size) = some 16 := by kernel_rfl
theorem zeroBook4 : (Tryz.prog.info? 54).map (·.zero) = some (some (.agg (bookC 0 (fun _ => .slice none 0 0)))) := by kernel_rfl
/-- A config's box. -/
def BxC (w : World) (bc : Nat) (x : CfgA) (t : UInt64) : Prop := w.heap[bc]? = some (.cells (x.cells t).toArray 27 (0, 0))
theorem BxC.get {w : World} {bc : Nat} {x : CfgA} {t : UInt64} (h : BxC w bc x t) : w.cell? ⟨bc, 1, none⟩ = some (.slice x.sa x.sn x.sc) ∧ w.cell? ⟨bc, 2, none⟩ = some (.slice x.aa x.an x.ac) ∧ w.cell? ⟨bc, 3, none⟩ = some (.slice x.ua x.un x.uc) := by
  refine ⟨?_, ?_, ?_⟩ <;> (rw [cell_of_block h]; rfl)
theorem BxC.row {w : World} {bc : Nat} {x : CfgA} {t : UInt64} (h : BxC w bc x t) : w.rangeAt bc 0 (x.cells t) := rangeAt_row h
theorem BxC.below {w w' : World} {bc : Nat} {x : CfgA} {t : UInt64} (h : BxC w bc x t) (hb : Below w.heap.size w w') : BxC w' bc x t := below_heap hb h (lt_of_heap h)
theorem BxC.touch {S : Nat → Prop} {w w' : World} {bc : Nat} {x : CfgA} {t : UInt64} (h : BxC w bc x t) (ht : Touch S w w') (hs : ¬ S bc) : BxC w' bc x t := ht.heap h hs

/-! ### the contracts as the play calls them -/
theorem lg_no (bt b1 b2 b3 : Nat) (T : Tbl) (k : UInt8) (a : Option Addr) (n c : Nat) (l : List UInt8) (d : List UInt8) (w : World) (h : IsTbl w bt b1 b2 b3 T) (hl : IsB w a n c l) (hn : ¬ T.knows k l) :
    Calls Tryz.prog 11 #[.pointer (some ⟨bt, 0, none⟩), .int .u8 k.toNat, .slice a n c, .agg (bcells d).toArray] w fun e w' => e = .returned (.tuple #[.int .u64 0, .int .i64 9]) ∧ Below w.heap.size w w' := login_no bt b1 b2 b3 T k a n c l d w h hl hn
theorem lg_yes (bt b1 b2 b3 : Nat) (T : Tbl) (k : UInt8) (a : Option Addr) (n c : Nat) (l : List UInt8) (d : List UInt8) (w : World) (h : IsTbl w bt b1 b2 b3 T) (hl : IsB w a n c l) (hn : T.knows k l) (hd : d.length = 16) :
    Calls Tryz.prog 11 #[.pointer (some ⟨bt, 0, none⟩), .int .u8 k.toNat, .slice a n c, .agg (bcells d).toArray] w fun e w' => e = .returned (.tuple #[.int .u64 (tok d).toNat, .int .i64 0]) ∧ Touch (fun k => k = b2) w w' ∧ IsTbl w' bt b1 b2 b3 { T with tokens := fun j => if j = k then some (tok d) else T.tokens j } := login_yes bt b1 b2 b3 T k a n c l d w h hl hn hd
theorem rlg_no (B rt : Nat) (ro : Option Addr) (rc : Nat) (L : List One) (T : Tbl) (n : Nat) (k : UInt8) (a : Option Addr) (m c : Nat) (l : List UInt8) (d : List UInt8) (w : World) (h : IsRT w B rt ro rc L) (hc : Cor T L n) (hl : IsB w a m c l) (hn : ¬ T.knows k l) :
    Calls Tryz.prog 12 #[.pointer (some ⟨rt, 0, none⟩), .int .u8 k.toNat, .slice a m c, .agg (bcells d).toArray] w fun e w' => e = .returned (.tuple #[.int .u64 0, .int .i64 9]) ∧ Below w.heap.size w w' := rlogin_no B rt ro rc L T n k a m c l d w h hc hl hn
theorem rlg_yes (B rt : Nat) (ro : Option Addr) (rc : Nat) (L : List One) (T : Tbl) (n : Nat) (k : UInt8) (a : Option Addr) (m c : Nat) (l : List UInt8) (d : List UInt8) (w : World) (h : IsRT w B rt ro rc L) (hc : Cor T L n) (hl : IsB w a m c l) (hn : T.knows k l) (hd : d.length = 16) :
    Calls Tryz.prog 12 #[.pointer (some ⟨rt, 0, none⟩), .int .u8 k.toNat, .slice a m c, .agg (bcells d).toArray] w fun e w' => e = .returned (.tuple #[.int .u64 (tok d).toNat, .int .i64 0]) ∧ Touch (RoS ro) w w' ∧ ∃ L', IsRT w' B rt ro rc L' ∧ Cor { T with tokens := fun j => if j = k then some (tok d) else T.tokens j } L' n := rlogin_yes B rt ro rc L T n k a m c l d w h hc hl hn hd
/-- Login of the program's, whatever it answers. -/
theorem lg_any (bt b1 b2 b3 : Nat) (T : Tbl) (k : UInt8) (a : Option Addr) (n c : Nat) (l : List UInt8) (d : List UInt8) (w : World) (h : IsTbl w bt b1 b2 b3 T) (hl : IsB w a n c l) (hd : d.length = 16) :
    Calls Tryz.prog 11 #[.pointer (some ⟨bt, 0, none⟩), .int .u8 k.toNat, .slice a n c, .agg (bcells d).toArray] w fun e w' => ∃ v, e = .returned v ∧ Touch (fun k => k = b2) w w' := by
  by_cases hn : T.knows k l
  · exact (lg_yes bt b1 b2 b3 T k a n c l d w h hl hn hd).mono fun e w' ⟨he, ht, _⟩ => ⟨_, he, ht⟩
  · exact (lg_no bt b1 b2 b3 T k a n c l d w h hl hn).mono fun e w' ⟨he, hb⟩ => ⟨_, he, Touch.of_below hb⟩

theorem TwCfg.lower {w : World} {B B' : Nat} {y : TwC} {c : CfgD} (h : TwCfg w B y c) (hb : B' ≤ B) : TwCfg w B' y c :=
  ⟨h.r, ⟨h.s.row, h.s.len, fun i h1 h2 => ⟨(h.s.each i h1 h2).1, Nat.le_trans hb (h.s.each i h1 h2).2⟩, h.s.nodup, h.s.z, Nat.le_trans hb h.s.le⟩, h.a, h.u, Nat.le_trans hb h.rB, Nat.le_trans hb h.aB, Nat.le_trans hb h.uB, h.sa, h.au⟩
theorem TwCfg.isS {w : World} {B : Nat} {y : TwC} {c : CfgD} (h : TwCfg w B y c) (hs : CfgSm c 1048576) : IsBB w B (some ⟨y.g, 0, none⟩) c.s.length (c.s.length + 1) c.s := by
  have hm := hs.s
  refine ⟨rfl, Nat.le_succ _, by unfold maxLen; omega, .inr ⟨y.g, 0, rfl, h.s.le, lt_of_heap h.s.row, fun i hi => ⟨_, ?_, some ⟨y.gs[i]'(by rw [h.s.len]; exact hi), 0, none⟩, c.s[i].length, c.s[i].length + 1, rfl, ?_, fun b off e _ => ?_⟩⟩⟩
  · rw [Nat.zero_add, cell_of_block h.s.row, List.getElem?_toArray, List.getElem?_append_left (by rw [tslices_length _ _ h.s.len]; exact hi), tslices_get _ _ i (by rw [h.s.len]; exact hi) hi]
  · have := hs.e _ (List.getElem_mem hi)
    exact (h.s.each i (by rw [h.s.len]; exact hi) hi).1.twin.isB (by unfold maxLen; omega)
  · cases e; exact (h.s.each i (by rw [h.s.len]; exact hi) hi).2
theorem sn_bad (x : CfgA) (t : UInt64) (w : World) (hn : x.sn < 1 ∨ 8 < x.sn) :
    Calls Tryz.prog 6 #[.agg (x.cells t).toArray] w fun e w' => e = .returned (.tuple #[.pointer none, .int .i64 1]) ∧ Below w.heap.size w w' := snew_bad _ _ x.sa x.sn x.sc x.aa x.an x.ac x.ua x.un x.uc w hn
theorem rsn_bad (x : CfgA) (t : UInt64) (w : World) (hn : x.sn < 1 ∨ 8 < x.sn) :
    Calls Tryz.prog 7 #[.agg (x.cells t).toArray] w fun e w' => e = .returned (.tuple #[.pointer none, .int .i64 1]) ∧ Below w.heap.size w w' := rsnew_bad _ _ x.sa x.sn x.sc x.aa x.an x.ac x.ua x.un x.uc w hn
theorem sn_good (y : TwC) (c : CfgD) (B : Nat) (w : World) (h : TwCfg w B y c) (hs : CfgSm c 1048576) (h1 : 1 ≤ c.s.length) (h8 : c.s.length ≤ 8) :
    Calls Tryz.prog 6 #[.agg ((y.adr c).cells c.t).toArray] w fun e w' => ∃ bt b1 b2 b3, e = .returned (.tuple #[.pointer (some ⟨bt, 0, none⟩), .int .i64 0]) ∧ Below w.heap.size w w' ∧ IsTbl w' bt b1 b2 b3 (newT c.s c.a c.u) ∧
      w.heap.size ≤ bt ∧ w.heap.size ≤ b1 ∧ w.heap.size ≤ b2 ∧ w.heap.size ≤ b3 := by
  have q4 := hs.a
  have q5 := hs.u
  exact snew_good _ _ _ _ _ c.s _ _ _ c.a _ _ _ c.u w B (h.isS hs) (h.a.twin.isB (by unfold maxLen; omega)) (h.u.twin.isB (by unfold maxLen; omega)) h1 h8 (fun l hl => by have := hs.e l hl; omega) (by omega) (by omega)
theorem rsn_good (x : CfgA) (c : CfgD) (B : Nat) (w : World) (h : IsCfg w B x c) (h1 : 1 ≤ c.s.length) (h8 : c.s.length ≤ 8) (hm : ∀ l ∈ c.s, l.length ≤ 20000) (ha : c.a.length ≤ 20000) (hu : c.u.length ≤ 20000) :
    Calls Tryz.prog 7 #[.agg (x.cells c.t).toArray] w fun e w' => ∃ rt ro rc L, e = .returned (.tuple #[.pointer (some ⟨rt, 0, none⟩), .int .i64 0]) ∧ Below w.heap.size w w' ∧ IsRT w' w.heap.size rt ro rc L ∧ Cor (newT c.s c.a c.u) L c.s.length := by
  refine (rsnew_good _ _ x.sa x.sn x.sc c.s x.aa x.an x.ac c.a x.ua x.un x.uc c.u w B h.s h.a h.u h1 h8 (fun l hl => by have := hm l hl; omega) (by omega) (by omega)).mono ?_
  rintro e w' ⟨rt, ro, rc, L, h1, h2, h3, h4, _⟩
  exact ⟨rt, ro, rc, L, h1, h2, h3, h4⟩
theorem cfg_keep (w : World) (B bk : Nat) (y : TwC) (c : CfgD) (h : BkP w B bk (fun _ => False) 0) (hx : TwCfg w B y c) (hs : CfgSm c 1048576) (h8 : c.s.length ≤ 8) :
    Calls Tryz.prog 9 #[.pointer (some ⟨bk, 0, none⟩), .agg ((y.adr c).cells c.t).toArray] w fun e w' => e = .returned (.tuple #[]) ∧ Touch (BkS w B) w w' ∧ BkP w' B bk (fun k => k < w'.heap.size) 100 := by
  refine (config_p w B bk _ 0 h (y.hd c) (hx.ok hs (by omega)) (.int .u64 c.t.toNat) rfl (by omega)).mono ?_
  rintro e w' ⟨he, ht, hp⟩
  exact ⟨he, ht, hp.mono (fun k hk => hk) (by have e : (y.hd c).S.length = c.s.length := twHds_len hx.s.len; omega)⟩
theorem owns_low {w : World} {B B' e sz n : Nat} {v : Value} {xs : List Value} (h : w.ownsRow B e sz v n xs) (hB : B' ≤ B) : w.ownsRow B' e sz v n xs := by
  refine ⟨h.1, ?_⟩
  rcases h.2 with h0 | ⟨g, cap, cur, hv, hb, h3⟩
  · exact .inl h0
  · exact .inr ⟨g, cap, cur, hv, Nat.le_trans hB hb, h3⟩
theorem IsRT.lower {w : World} {B B' rt : Nat} {ro : Option Addr} {rc : Nat} {L : List One} (h : IsRT w B rt ro rc L) (hb : B' ≤ B) : IsRT w B' rt ro rc L :=
  ⟨Nat.le_trans hb h.le, h.cells, owns_low h.row hb, fun x hx => ⟨owns_low (h.ok x hx).1 hb, owns_low (h.ok x hx).2 hb⟩, h.few⟩

/-- A load of some cells, where it is wanted. -/
theorem wpList_load_wanted {P : Program} {ops : Array Oper} {rest : List Oper} {op : Oper} {a : Act} {w : World} {Q : Exit → Act → World → Prop} (hw : Region.wanted op (yielded ops a.tmps) = true) (ty : TypeId) (x : Operand) (ho : op.op = .load ty x)
    (b o : Nat) (hx : a.eval x = .pointer (some ⟨b, o, none⟩)) (cs : List Value) (d : TypeDesc) (hc : w.rangeAt b o cs)
    (hu : P.underlying ty = some d) (hd : d.isRow = true) (hi : (P.info? ty).map (·.size) = some cs.length)
    (h : wpList P ops Q rest (a.put op.dst (.agg cs.toArray)) w) : wpList P ops Q (op :: rest) a w :=
  wpList_step fun K hK => by
    simp only [hw, if_true]
    exact wp_load_mid ty x ho b o hx cs d hc hu hd hi (hK _ _ h)

theorem SSt.more {W w : World} {bt b1 b2 b3 rt : Nat} {ro : Option Addr} {rc bk : Nat} {T : Tbl} {L : List One} {n c d : Nat} (h : SSt W w bt b1 b2 b3 rt ro rc bk T L n c) (hd : c ≤ d) : SSt W w bt b1 b2 b3 rt ro rc bk T L n d :=
  ⟨h.below, h.tbl, h.ge, h.ref, h.cor, h.book.mono (fun _ h => h) hd⟩
theorem SSt.mapS {W w : World} {bt b1 b2 b3 rt : Nat} {ro : Option Addr} {rc bk : Nat} {T : Tbl} {L : List One} {n c bm : Nat} (h : SSt W w bt b1 b2 b3 rt ro rc bk T L n c) (hbm : bm = b1 ∨ bm = b2 ∨ bm = b3) : MapsOnly (fun k => k = bm) w := fun k hk => h.tbl.maps k (by subst hk; exact hbm)
theorem roS_ne {w : World} {B rt : Nat} {ro : Option Addr} {rc : Nat} {L : List One} (h : IsRT w B rt ro rc L) (hn : 0 < L.length) {g : Nat} {cur : Array Value} {t : TypeId} {fz : Nat × Nat} (hg : w.heap[g]? = some (.cells cur t fz)) (ht : t ≠ 79) : ¬ RoS ro g := fun hk => by
  obtain ⟨cur2, hc, _⟩ := roS_one h hn hk
  exact ty_ne hg hc ht rfl
theorem isB_roS {w0 w : World} {B rt : Nat} {ro : Option Addr} {rc : Nat} {L : List One} {a : Option Addr} {n c : Nat} {l : List UInt8} (h : IsRT w B rt ro rc L) (hn : 0 < L.length) (hl : IsB w0 a n c l) (hB : w0.heap.size ≤ B) : ∀ b off, a = some ⟨b, off, none⟩ → l ≠ [] → ¬ RoS ro b := fun b off e hne hk => by
  obtain ⟨_, _, h2⟩ := roS_one h hn hk
  rcases hl.2.2.2 with h0 | ⟨b', o', e', hb', _⟩
  · exact hne h0.1
  · rw [e'] at e; cases e; omega

theorem who_q (bt b1 b2 b3 : Nat) (T : Tbl) (k : UInt8) (n : UInt64) (w : World) (h : IsTbl w bt b1 b2 b3 T) :
    Calls Tryz.prog 13 #[.pointer (some ⟨bt, 0, none⟩), .int .u8 k.toNat, .int .u64 n.toNat] w fun e w' => e = .returned (.int .i64 (T.who k n)) ∧ w' = w := (who_any bt b1 b2 b3 T k n w h).mono fun e w' h => ⟨h.1, h.2.symm⟩
theorem rwho_q (B rt : Nat) (ro : Option Addr) (rc : Nat) (L : List One) (T : Tbl) (n : Nat) (k : UInt8) (t : UInt64) (w : World) (h : IsRT w B rt ro rc L) (hc : Cor T L n) :
    Calls Tryz.prog 14 #[.pointer (some ⟨rt, 0, none⟩), .int .u8 k.toNat, .int .u64 t.toNat] w fun e w' => e = .returned (.int .i64 (T.who k t)) ∧ w' = w := (rwho_t B rt ro rc L T n k t w h hc).mono fun e w' h => ⟨h.1, h.2.symm⟩

end Go.Proofs.YthadgnaaipdpaaaGreatDoor
