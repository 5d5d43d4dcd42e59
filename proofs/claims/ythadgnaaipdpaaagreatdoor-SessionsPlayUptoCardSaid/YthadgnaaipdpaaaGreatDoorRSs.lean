/- The document's sessions (salesroomref23), in memory; conditions: those typed. -/
import Derived.Test.YthadgnaaipdpaaaGreatDoorSessC
import Derived.Test.YthadgnaaipdpaaaGreatDoorBB
namespace Go.Proofs.YthadgnaaipdpaaaGreatDoor
open Go.RowKit
set_option linter.unusedVariables false
set_option linter.unusedSimpArgs false
set_option maxRecDepth 100000

/-! ### rows of records -/
theorem flat_len {α : Type} (f : α → List Value) (c : Nat) (hc : ∀ x, (f x).length = c) (L : List α) : (L.flatMap f).length = L.length * c := by
  induction L with
  | nil => simp
  | cons x L ih => rw [List.flatMap_cons, List.length_append, ih, hc, List.length_cons, Nat.succ_mul, Nat.add_comm]
theorem rec_get {α : Type} (f : α → List Value) (c : Nat) (hc : ∀ x, (f x).length = c) (L : List α) (i : Nat) (hi : i < L.length) (j : Nat) (hj : j < c) : (L.flatMap f)[i * c + j]? = (f L[i])[j]? := by
  induction L generalizing i with
  | nil => simp at hi
  | cons x L ih =>
    rw [List.flatMap_cons]
    cases i with
    | zero => rw [List.getElem?_append_left (by rw [hc]; omega)]; simp
    | succ i =>
      rw [List.getElem?_append_right (by rw [hc, Nat.succ_mul]; omega), hc, show (i + 1) * c + j - c = i * c + j by rw [Nat.succ_mul]; omega, ih i (by simpa using hi)]
      rfl
theorem rec_set {α : Type} (f : α → List Value) (c : Nat) (hc : ∀ x, (f x).length = c) (L : List α) (i : Nat) (hi : i < L.length) (j : Nat) (hj : j < c) (v : Value) (y : α) (hy : f y = (f L[i]).set j v) : (L.flatMap f).set (i * c + j) v = (L.set i y).flatMap f := by
  induction L generalizing i with
  | nil => simp at hi
  | cons x L ih =>
    rw [List.flatMap_cons]
    cases i with
    | zero =>
      simp only [Nat.zero_mul, Nat.zero_add, List.set_cons_zero, List.flatMap_cons]
      rw [List.set_append_left _ _ (by rw [hc]; exact hj), hy]; rfl
    | succ i =>
      rw [List.set_append_right _ _ (by rw [hc, Nat.succ_mul]; omega), hc, show (i + 1) * c + j - c = i * c + j by rw [Nat.succ_mul]; omega, ih i (by simpa using hi) hy]
      rfl

/-- One who may be there, and where its bytes lie. -/
structure One where
  who : UInt8
  sec : List UInt8
  in_ : Bool
  tok : UInt64
  kept : Bool
  seq : UInt32
  rep : List UInt8
  sa : Option Addr
  sc : Nat
  ra : Option Addr
  rc : Nat
def One.cells (x : One) : List Value := [.int .u8 x.who.toNat, .slice x.sa x.sec.length x.sc, .bool x.in_, .int .u64 x.tok.toNat, .bool x.kept, .int .u32 x.seq.toNat, .slice x.ra x.rep.length x.rc]
theorem One.cells7 (x : One) : x.cells.length = 7 := rfl
def ocells (L : List One) : List Value := L.flatMap One.cells
def One.ok (w : World) (B : Nat) (x : One) : Prop := w.ownsRow B 5 1 (.slice x.sa x.sec.length x.sc) x.sec.length (bcells x.sec) ∧ w.ownsRow B 5 1 (.slice x.ra x.rep.length x.rc) x.rep.length (bcells x.rep)
theorem One.ok.touch {S : Nat → Prop} {w w' : World} {B : Nat} {x : One} (h : x.ok w B) (ht : Touch S w w') (hs : ∀ k, S k → ∀ cur t fz, w.heap[k]? = some (.cells cur t fz) → t ≠ 5) : x.ok w' B :=
  ⟨owns_touch h.1 ht (fun k hk e => by
    obtain ⟨cur, hc⟩ := owns_block h.1 hk
    exact hs k e _ _ _ hc rfl), owns_touch h.2 ht (fun k hk e => by
    obtain ⟨cur, hc⟩ := owns_block h.2 hk
    exact hs k e _ _ _ hc rfl)⟩
theorem infoOne : (Tryz.prog.info? 79).map (fun i => (i.zero, i.size, i.bytes)) = some (some (.agg #[.int .u8 0, .slice none 0 0, .bool false, .int .u64 0, .bool false, .int .u32 0, .slice none 0 0]), 7, 80) := by kernel_rfl
theorem rowOne : RowTy Tryz.prog 75 79 7 80 (.agg #[.int .u8 0, .slice none 0 0, .bool false, .int .u64 0, .bool false, .int .u32 0, .slice none 0 0]) := ⟨Tryz.underlying75, infoOne, rfl, by decide⟩
/-- A table in memory. -/
structure IsRT (w : World) (B rt : Nat) (ro : Option Addr) (rc : Nat) (L : List One) : Prop where
  le : B ≤ rt
  cells : w.heap[rt]? = some (.cells #[.slice ro L.length rc] 77 (0, 0))
  row : w.ownsRow B 79 7 (.slice ro L.length rc) L.length (ocells L)
  ok : ∀ x ∈ L, x.ok w B
  few : L.length ≤ 10
def NoRT (w : World) (S : Nat → Prop) : Prop := ∀ k, S k → ∀ cur t fz, w.heap[k]? = some (.cells cur t fz) → t ≠ 5 ∧ t ≠ 79 ∧ t ≠ 77
theorem IsRT.touch {S : Nat → Prop} {w w' : World} {B rt : Nat} {ro : Option Addr} {rc : Nat} {L : List One} (h : IsRT w B rt ro rc L) (ht : Touch S w w') (hs : NoRT w S) : IsRT w' B rt ro rc L :=
  ⟨h.le, ht.heap h.cells (fun e => (hs rt e _ _ _ h.cells).2.2 rfl), owns_touch h.row ht (fun k hk e => by
    obtain ⟨cur, hc⟩ := owns_block h.row hk
    exact (hs k e _ _ _ hc).2.1 rfl), fun x hx => (h.ok x hx).touch ht (fun k hk cur t fz hc => (hs k hk cur t fz hc).1), h.few⟩
theorem IsRT.below {w w' : World} {B rt : Nat} {ro : Option Addr} {rc : Nat} {L : List One} (h : IsRT w B rt ro rc L) (hb : Below w.heap.size w w') : IsRT w' B rt ro rc L := h.touch (Touch.of_below (S := fun _ => False) hb) (fun _ h => h.elim)
theorem IsRT.field {w : World} {B rt : Nat} {ro : Option Addr} {rc : Nat} {L : List One} (h : IsRT w B rt ro rc L) : w.cell? ⟨rt, 0, none⟩ = some (.slice ro L.length rc) := by rw [cell_of_block h.cells]; rfl
/-- Its row, once there is one. -/
theorem IsRT.at {w : World} {B rt : Nat} {ro : Option Addr} {rc : Nat} {L : List One} (h : IsRT w B rt ro rc L) (hn : 0 < L.length) : ∃ rl cur, ro = some ⟨rl, 0, none⟩ ∧ w.heap[rl]? = some (.cells cur 79 (0, 0)) ∧ B ≤ rl ∧ L.length ≤ rc ∧ rc ≤ maxLen ∧ L.length * 7 ≤ cur.size ∧ ∀ i (hi : i < L.length) (j : Nat) (hj : j < 7), w.cell? ⟨rl, i * 7 + j, none⟩ = (L[i].cells)[j]? := by
  rcases h.row.2 with ⟨_, h0⟩ | ⟨g, cap, cur, hv, hB, hg, h1, h2, h3, h4⟩
  · omega
  · cases hv
    refine ⟨g, cur, rfl, hg, hB, h1, h2, by omega, fun i hi j hj => ?_⟩
    rw [cell_of_block hg]
    have e : (cur.toList.take (L.length * 7))[i * 7 + j]? = (L[i].cells)[j]? := by rw [h4]; exact rec_get One.cells 7 One.cells7 L i hi j hj
    rw [List.getElem?_take, if_pos (by omega)] at e
    simpa using e
/-- A cell of one is laid. -/
theorem IsRT.put {w : World} {B rt rl : Nat} {rc : Nat} {L : List One} (h : IsRT w B rt (some ⟨rl, 0, none⟩) rc L) (i : Nat) (hi : i < L.length) (j : Nat) (hj : j < 7) (v : Value) (y : One) (hy : y.cells = (L[i].cells).set j v) (hok : y.ok w B) : Touch (fun k => k = rl) w (w.setCell ⟨rl, i * 7 + j, none⟩ v) ∧ IsRT (w.setCell ⟨rl, i * 7 + j, none⟩ v) B rt (some ⟨rl, 0, none⟩) rc (L.set i y) := by
  have ht : Touch (fun k => k = rl) w (w.setCell ⟨rl, i * 7 + j, none⟩ v) := (Touch.refl _ _).setCell _ _ (.inl rfl)
  obtain ⟨hl, hr⟩ := h.row
  rcases hr with ⟨e, _⟩ | ⟨g, cap, cur, hv, hB, hg, h1, h2, h3, h4⟩
  · cases e
  cases hv
  have hsz : i * 7 + j < cur.size := by rw [h3]; omega
  have hu : ∀ k, k = rl → ∀ cur2 t fz, w.heap[k]? = some (.cells cur2 t fz) → t ≠ 5 := fun k hk cur2 t fz hc => by
    rw [hk, hg] at hc
    rw [← (Obj.cells.inj (Option.some.inj hc)).2.1]
    decide
  refine ⟨ht, h.le, ?_, ?_, fun x hx => ?_, by simpa using h.few⟩
  · rw [List.length_set]
    exact ht.heap h.cells (fun e => by
      have hc := h.cells
      rw [e, hg] at hc
      have := (Obj.cells.inj (Option.some.inj hc)).2.1
      revert this; decide)
  · rw [List.length_set]
    refine ⟨by unfold ocells; rw [flat_len One.cells 7 One.cells7, List.length_set], .inr ⟨rl, rc, cur.set (i * 7 + j) v hsz, rfl, hB, ?_, h1, h2, by simpa using h3, ?_⟩⟩
    · rw [heap_setCell_same _ _ _ _ _ _ hg]
      simp [Array.setIfInBounds, hsz]
    · have := rec_set One.cells 7 One.cells7 L i hi j hj v y hy
      unfold ocells
      rw [← this]
      have h4' : cur.toList.take (L.length * 7) = L.flatMap One.cells := h4
      rw [← h4']
      simp [List.take_set]
  · rcases List.mem_or_eq_of_mem_set hx with hx | hx
    · exact (h.ok x hx).touch ht hu
    · rw [hx]; exact hok.touch ht hu

/-! ### where one stands -/
def ofN (L : List One) (k : UInt8) : Nat := L.findIdx (fun x => x.who == k)
def ofI (L : List One) (k : UInt8) : Int := if ofN L k < L.length then (ofN L k : Int) else -1
theorem ofN_at {L : List One} {k : UInt8} (i : Nat) (hi : i < L.length) (h1 : L[i].who = k) (h2 : ∀ j (hj : j < L.length), j < i → L[j].who ≠ k) : ofN L k = i := by
  unfold ofN
  rw [List.findIdx_eq hi]
  exact ⟨by simpa using h1, fun j hj => by simpa using h2 j (by omega) hj⟩
theorem ofN_none {L : List One} {k : UInt8} (h : ∀ j (hj : j < L.length), L[j].who ≠ k) : ofN L k = L.length := by
  unfold ofN
  rw [List.findIdx_eq_length]
  intro x hx
  obtain ⟨j, hj, rfl⟩ := List.getElem_of_mem hx
  simpa using h j hj

set_option maxHeartbeats 1000000 in
theorem rof_t (B rt : Nat) (ro : Option Addr) (rc : Nat) (L : List One) (k : UInt8) (w : World) (h : IsRT w B rt ro rc L) :
    Calls Tryz.prog 34 #[.pointer (some ⟨rt, 0, none⟩), .int .u8 k.toNat] w fun e w' => e = .returned (.int .i64 (ofI L k)) ∧ w = w' := by
  have f0 := h.field
  have hfew := h.few
  have H := Lib.hid h
  clear h
  go_enter Tryz.func34, Tryz.ntmps34
  go_wp2
  obtain ⟨M, hM⟩ : ∃ M, M = L.length := ⟨_, rfl⟩
  have HM := Lib.hid hM
  rw [← hM] at f0 hfew
  clear hM
  go_loopw [5] (fun i wr => ∃ j : Nat, j ≤ M ∧ i = .int .i64 j ∧ Hid (∀ i (hi : i < L.length), i < j → L[i].who ≠ k) ∧ wr = w) (fun i _ => M - (intOf i).toNat)
  case atStart => exact ⟨0, Nat.zero_le _, rfl, Lib.hid (fun i hi h => by omega), rfl⟩
  case round =>
    obtain ⟨j, hj, rfl, HN, rfl⟩ := hrel
    by_cases hlt : j < M
    · have hjL : j < L.length := by rw [← HM.out]; exact hlt
      obtain ⟨rl, cur, rfl, hg, hB, h1, h2, h3, hc⟩ := H.out.at (by omega)
      have c0 : wr.cell? ⟨rl, j * 7, none⟩ = some (.int .u8 L[j].who.toNat) := hc j hjL 0 (by decide)
      have hMc : M ≤ rc := by rw [HM.out]; exact h1
      clear hc hg h3 h1
      by_cases hk : L[j].who = k
      · have hb : ((L[j].who.toNat : Int) == (k.toNat : Int)) = true := by rw [hk]; simp
        have HR : Hid (ofI L k = (j : Int)) := Lib.hid (by unfold ofI; rw [ofN_at j hjL hk HN.out, if_pos hjL])
        clear hk
        go_wp2
        go_ret
        exact ⟨by rw [HR.out]; rfl, rfl⟩
      · have hb : ((L[j].who.toNat : Int) == (k.toNat : Int)) = false := by rw [beq_eq_false_iff_ne]; intro e; exact hk (UInt8.toNat_inj.1 (by omega))
        have HN2 : Hid (∀ i (hi : i < L.length), i < j + 1 → L[i].who ≠ k) := Lib.hid (fun i hi h => by
          by_cases hij : i = j
          · subst hij; exact hk
          · exact HN.out i hi (by omega))
        clear hk HN
        go_wp2
        go_roundw
        case rel => exact ⟨j + 1, by omega, by go_num, HN2, trivial⟩
        case measure => have := HM.out; simp [intOf]; omega
    · have hje : j = M := by omega
      have HR : Hid (ofI L k = -1) := Lib.hid (by
        have e := ofN_none (L := L) (k := k) (fun i hi => HN.out i hi (by have := HM.out; omega))
        unfold ofI
        rw [e, if_neg (by omega)])
      subst hje
      go_wp2
      go_ret
      exact ⟨by rw [HR.out]; rfl, rfl⟩

end Go.Proofs.YthadgnaaipdpaaaGreatDoor
