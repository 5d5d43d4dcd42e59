/- The document's sessions (salesroomref23): New; conditions: those typed. -/
import Derived.Test.YthadgnaaipdpaaaGreatDoorRSc
import Derived.Test.YthadgnaaipdpaaaGreatDoorKBk
import Derived.IntWalk
namespace Go.Proofs.YthadgnaaipdpaaaGreatDoor
open Go.RowKit
set_option linter.unusedVariables false
set_option linter.unusedSimpArgs false
set_option maxRecDepth 100000

theorem ocells_append (L X : List One) : ocells (L ++ X) = ocells L ++ ocells X := by unfold ocells; rw [List.flatMap_append]
/-- More are put behind a table's. -/
theorem IsRT.push {w w8 wA w9 : World} {B rt : Nat} {ro b9 : Option Addr} {rc c9 : Nat} {L X : List One} (h : IsRT w B rt ro rc L) (hb : Below w.heap.size w w8) (hX : ∀ x ∈ X, x.ok w8 B) (hA : Below w8.heap.size w8 wA)
    (hown : w9.ownsRow B 79 7 (.slice b9 (L.length + X.length) c9) (L.length + X.length) (ocells L ++ ocells X)) (hg : wA.grownBy w9 (Value.slice ro L.length rc).ownBlock) (hf : L.length + X.length ≤ 10) :
    w9.heap[rt]? = some (.cells #[.slice ro L.length rc] 77 (0, 0)) ∧ IsRT (w9.setCell ⟨rt, 0, none⟩ (.slice b9 (L.length + X.length) c9)) B rt b9 c9 (L ++ X) ∧ Below B w (w9.setCell ⟨rt, 0, none⟩ (.slice b9 (L.length + X.length) c9)) ∧ ∀ (b : Nat) (C : Array Value) (t : TypeId) (fz : Nat × Nat), w.heap[b]? = some (.cells C t fz) → t ≠ 77 → t ≠ 79 → (w9.setCell ⟨rt, 0, none⟩ (.slice b9 (L.length + X.length) c9)).heap[b]? = some (.cells C t fz) := by
  have hwA : Below w.heap.size w wA := hb.trans (hA.mono hb.size)
  have hrA := h.below hwA
  have htA : Touch (fun k => (Value.slice ro L.length rc).ownBlock = some k) wA w9 := grown_touch (Below.refl _ _) hg
  have hrow : ∀ k, (Value.slice ro L.length rc).ownBlock = some k → B ≤ k ∧ ∃ cur, wA.heap[k]? = some (.cells cur 79) := fun k hk => ⟨(hrA.row.lt k hk).1, owns_block hrA.row hk⟩
  have hnr : ¬ (Value.slice ro L.length rc).ownBlock = some rt := fun e => by
    obtain ⟨_, cur, hc⟩ := hrow rt e
    have h1 := hrA.cells
    rw [hc] at h1
    have := (Obj.cells.inj (Option.some.inj h1)).2.1
    revert this; decide
  have h9 := htA.heap hrA.cells hnr
  obtain ⟨W, hW⟩ : ∃ W, W = w9.setCell ⟨rt, 0, none⟩ (.slice b9 (L.length + X.length) c9) := ⟨_, rfl⟩
  have ht9 : Touch (fun k => k = rt) w9 W := by rw [hW]; exact (Touch.refl _ _).setCell _ _ (.inl rfl)
  rw [← hW]
  have hT : Touch (fun k => (Value.slice ro L.length rc).ownBlock = some k ∨ k = rt) wA W := (htA.weaken (fun k _ hk => .inl hk)).trans (ht9.weaken (fun k _ hk => .inr hk))
  have hu : ∀ k, ((Value.slice ro L.length rc).ownBlock = some k ∨ k = rt) → ∀ cur t fz, wA.heap[k]? = some (.cells cur t fz) → t ≠ 5 := fun k hk cur t fz hc => by
    rcases hk with hk | hk
    · obtain ⟨_, cur2, hc2⟩ := hrow k hk
      rw [hc2] at hc
      rw [← (Obj.cells.inj (Option.some.inj hc)).2.1]; decide
    · rw [hk, hrA.cells] at hc
      rw [← (Obj.cells.inj (Option.some.inj hc)).2.1]; decide
  refine ⟨h9, ⟨h.le, ?_, ?_, fun x hx => ?_, by rw [List.length_append]; exact hf⟩, ?_, fun b C t fz hb2 n1 n2 => ?_⟩
  · rw [hW, heap_setCell_same _ _ _ _ _ _ h9, List.length_append]; rfl
  · rw [List.length_append, ocells_append]
    refine owns_touch hown ht9 (fun k hk e => ?_)
    obtain ⟨cur, hc⟩ := owns_block hown hk
    rw [e, h9] at hc
    have := (Obj.cells.inj (Option.some.inj hc)).2.1
    revert this; decide
  · rcases List.mem_append.1 hx with hx | hx
    · exact (hrA.ok x hx).touch hT hu
    · exact ((hX x hx).touch (Touch.of_below (S := fun _ => False) hA) (fun k hk => hk.elim)).touch hT hu
  · exact (hwA.mono h.le_heap).trans (hT.below (Nat.le_trans h.le_heap hwA.size) (fun k hk e => by
      rcases e with e | e
      · have := (hrow k e).1; omega
      · have := h.le; omega))
  · have hbA := below_heap hwA hb2 (lt_of_heap hb2)
    exact hT.heap hbA (fun e => by
      rcases e with e | e
      · obtain ⟨_, cur, hc⟩ := hrow b e
        rw [hc] at hbA
        exact n2 (Obj.cells.inj (Option.some.inj hbA)).2.1.symm
      · rw [e, hrA.cells] at hbA
        exact n1 (Obj.cells.inj (Option.some.inj hbA)).2.1.symm)

theorem At.arr (w : World) (C : List Value) (e : TypeId) (fz : Nat × Nat) : At (w.alloc (.cells C.toArray e fz)) (some ⟨w.heap.size, 0, none⟩) C := At.of_cells fun j hj => by
  rw [cell_of_block (heap_new w _), Nat.zero_add]
  simp [hj]
theorem one7 (x : Int) (b : Option Addr) (n c : Nat) : ∀ v ∈ [Value.int .u8 x, .slice b n c, .bool false, .int .u64 0, .bool false, .int .u32 0, .slice none 0 0], v.oneCell' = true := by
  intro v hv
  simp at hv
  rcases hv with rfl | rfl | rfl | rfl | rfl | rfl | rfl <;> rfl
theorem one14 (x y : Int) (b b' : Option Addr) (n c n' c' : Nat) : ∀ v ∈ [Value.int .u8 x, .slice b n c, .bool false, .int .u64 0, .bool false, .int .u32 0, .slice none 0 0, .int .u8 y, .slice b' n' c', .bool false, .int .u64 0, .bool false, .int .u32 0, .slice none 0 0], v.oneCell' = true := by
  intro v hv
  have : v ∈ [Value.int .u8 x, .slice b n c, .bool false, .int .u64 0, .bool false, .int .u32 0, .slice none 0 0] ++ [Value.int .u8 y, .slice b' n' c', .bool false, .int .u64 0, .bool false, .int .u32 0, .slice none 0 0] := hv
  rcases List.mem_append.1 this with h | h
  · exact one7 _ _ _ _ v h
  · exact one7 _ _ _ _ v h
/-- What a new one is. -/
def fresh1 (who : UInt8) (s : List UInt8) (a : Option Addr) (c : Nat) : One := ⟨who, s, false, 0, false, 0, [], a, c, none, 0⟩
structure Fresh (S : List (List UInt8)) (L : List One) (k : Nat) : Prop where
  len : L.length = k
  at_ : ∀ i (hi : i < L.length), ∃ a c, L[i] = fresh1 (UInt8.ofNat (i + 1)) (S.getD i []) a c
theorem Fresh.push {S : List (List UInt8)} {L : List One} {k : Nat} (h : Fresh S L k) (hk : k < S.length) (a : Option Addr) (c : Nat) : Fresh S (L ++ [fresh1 (UInt8.ofNat (k + 1)) S[k] a c]) (k + 1) := by
  refine ⟨by simp [h.len], fun i hi => ?_⟩
  by_cases hil : i < L.length
  · rw [List.getElem_append_left hil]; exact h.at_ i hil
  · have : i = L.length := by simp at hi; omega
    subst this
    refine ⟨a, c, ?_⟩
    rw [List.getElem_append_right (Nat.le_refl _)]
    have hk' := h.len
    subst hk'
    simp [hk]
theorem Fresh.cor {S : List (List UInt8)} {L : List One} (h : Fresh S L S.length) (h1 : 1 ≤ S.length) (h8 : S.length ≤ 8) (ad au : List UInt8) (a1 a2 : Option Addr) (c1 c2 : Nat) : Cor (newT S ad au) (L ++ [fresh1 0 ad a1 c1, fresh1 255 au a2 c2]) S.length := by
  have hl := h.len
  have key : ∀ i (hi : i < (L ++ [fresh1 0 ad a1 c1, fresh1 255 au a2 c2]).length), ∃ a c, (L ++ [fresh1 0 ad a1 c1, fresh1 255 au a2 c2])[i] = if i < S.length then fresh1 (UInt8.ofNat (i + 1)) (S.getD i []) a c else if i = S.length then fresh1 0 ad a c else fresh1 255 au a c := fun i hi => by
    have hi' : i < S.length + 2 := by simpa [hl] using hi
    by_cases hil : i < L.length
    · obtain ⟨a, c, e⟩ := h.at_ i hil
      refine ⟨a, c, ?_⟩
      rw [List.getElem_append_left hil, e, if_pos (by omega)]
    · by_cases h0 : i = S.length
      · refine ⟨a1, c1, ?_⟩
        rw [if_neg (by omega), if_pos h0, List.getElem_append_right (by omega)]
        have : i - L.length = 0 := by omega
        simp [this]
      · refine ⟨a2, c2, ?_⟩
        rw [if_neg (by omega), if_neg h0, List.getElem_append_right (by omega)]
        have : i - L.length = 1 := by omega
        simp [this]
  have hsec : ∀ k : UInt8, (newT S ad au).secrets k = secF S ad au k := fun _ => rfl
  refine ⟨h1, h8, by simp [hl], fun i hi => ?_, fun i hi => ?_, fun i hi => ?_, fun i hi => ?_, fun k hk => ⟨?_, rfl, rfl⟩, fun i hi => by
    obtain ⟨a, c, e⟩ := key i hi
    rw [e]
    split
    · simp [fresh1]
    · split <;> simp [fresh1]⟩
  · obtain ⟨a, c, e⟩ := key i hi
    rw [e]
    split
    · simp [fresh1]; omega
    · split <;> rfl
  · obtain ⟨a, c, e⟩ := key i hi
    rw [e, hsec]
    split
    · rename_i hlt
      show secF S ad au (UInt8.ofNat (i + 1)) = some (S.getD i [])
      have h256 : (UInt8.ofNat (i + 1)).toNat = i + 1 := by simp; omega
      unfold secF
      rw [if_neg (fun e => by rw [e] at h256; simp at h256; omega), if_neg (fun e => by rw [e] at h256; simp at h256)]
      unfold secUp
      rw [h256, if_neg (by omega)]
      simp [hlt]
    · split <;> rfl
  · obtain ⟨a, c, e⟩ := key i hi
    rw [e]
    have : (newT S ad au).tokens = fun _ => none := rfl
    rw [this]
    split
    · rfl
    · split <;> rfl
  · obtain ⟨a, c, e⟩ := key i hi
    rw [e]
    have : (newT S ad au).kept = fun _ => none := rfl
    rw [this]
    split
    · rfl
    · split <;> rfl
  · rw [hsec]
    have hw : ∀ i (hi : i < (L ++ [fresh1 0 ad a1 c1, fresh1 255 au a2 c2]).length), (L ++ [fresh1 0 ad a1 c1, fresh1 255 au a2 c2])[i].who = if i < S.length then UInt8.ofNat (i + 1) else if i = S.length then 0 else 255 := fun i hi => by
      obtain ⟨a, c, e⟩ := key i hi
      rw [e]
      split
      · rfl
      · split <;> rfl
    have hlen : (L ++ [fresh1 0 ad a1 c1, fresh1 255 au a2 c2]).length = S.length + 2 := by simp [hl]
    have k255 : k ≠ 255 := fun e => hk (S.length + 1) (by omega) (by rw [hw _ (by omega), if_neg (by omega), if_neg (by omega), e])
    have k0 : k ≠ 0 := fun e => hk S.length (by omega) (by rw [hw _ (by omega), if_neg (by omega), if_pos rfl, e])
    unfold secF
    rw [if_neg k255, if_neg k0]
    unfold secUp
    rw [if_neg (fun e => k0 (UInt8.toNat_inj.1 (by simp; omega)))]
    rw [List.getElem?_eq_none]
    rcases Nat.lt_or_ge (k.toNat - 1) S.length with hlt | hge
    · exfalso
      have hk1 : k.toNat ≠ 0 := fun e => k0 (UInt8.toNat_inj.1 (by simp; omega))
      refine hk (k.toNat - 1) (by omega) ?_
      rw [hw _ (by omega), if_pos hlt]
      exact UInt8.toNat_inj.1 (by simp; have := k.toNat_lt; omega)
    · exact hge

theorem rsnew_bad (rv uv : Value) (sa : Option Addr) (sn sc : Nat) (aa : Option Addr) (an ac : Nat) (ua : Option Addr) (un uc : Nat) (w : World) (hn : sn < 1 ∨ 8 < sn) :
    Calls Tryz.prog 7 #[.agg #[rv, .slice sa sn sc, .slice aa an ac, .slice ua un uc, uv]] w fun e w' => e = .returned (.tuple #[.pointer none, .int .i64 1]) ∧ Below w.heap.size w w' := by
  have hbe : Below w.heap.size w (w.alloc (.cells #[rv, .slice sa sn sc, .slice aa an ac, .slice ua un uc, uv] 27)) := (Below.refl _ _).alloc (Nat.le_refl _) _
  have HB := Lib.hid hbe
  clear hbe
  rcases hn with hn | hn
  · have d1 : decide ((sn : Int) < 1) = true := by rw [decide_eq_true_eq]; omega
    clear hn
    go_enter Tryz.func7, Tryz.ntmps7
    go_wp2_with fail
    go_ret2
    exact ⟨rfl, HB.out⟩
  · have d1 : decide ((sn : Int) < 1) = false := by rw [decide_eq_false_iff_not]; omega
    have d2 : decide ((8 : Int) < (sn : Int)) = true := by rw [decide_eq_true_eq]; omega
    clear hn
    go_enter Tryz.func7, Tryz.ntmps7
    go_wp2_with fail
    go_ret2
    exact ⟨rfl, HB.out⟩

set_option maxHeartbeats 8000000 in
theorem rsnew_good (rv uv : Value) (sa : Option Addr) (sn sc : Nat) (S : List (List UInt8)) (aa : Option Addr) (an ac : Nat) (ad : List UInt8) (ua : Option Addr) (un uc : Nat) (au : List UInt8) (w : World) (B : Nat)
    (hL : IsBB w B sa sn sc S) (ha : IsB w aa an ac ad) (hu : IsB w ua un uc au) (h1 : 1 ≤ S.length) (h8 : S.length ≤ 8) (hLm : ∀ l ∈ S, l.length ≤ 1000000) (ham : ad.length ≤ 1000000) (hum : au.length ≤ 1000000) :
    Calls Tryz.prog 7 #[.agg #[rv, .slice sa sn sc, .slice aa an ac, .slice ua un uc, uv]] w fun e w' => ∃ rt ro rc L, e = .returned (.tuple #[.pointer (some ⟨rt, 0, none⟩), .int .i64 0]) ∧ Below w.heap.size w w' ∧ IsRT w' w.heap.size rt ro rc L ∧ Cor (newT S ad au) L S.length ∧ ∀ x ∈ L, x.rep.length ≤ 1000000 := by
  obtain rfl := hL.1
  obtain rfl := ha.1
  obtain rfl := hu.1
  have d1 : decide ((S.length : Int) < 1) = false := by rw [decide_eq_false_iff_not]; omega
  have d2 : decide ((8 : Int) < (S.length : Int)) = false := by rw [decide_eq_false_iff_not]; omega
  obtain ⟨_, hLc, hLc2, hL4⟩ := hL
  obtain ⟨sb, so, rfl, _, hsb, hcell⟩ : ∃ b off, sa = some ⟨b, off, none⟩ ∧ B ≤ b ∧ b < w.heap.size ∧ ∀ i (h : i < S.length), ∃ u, w.cell? ⟨b, off + i, none⟩ = some u ∧ ∃ a1 n1 c1, u = .slice a1 n1 c1 ∧ IsB w a1 n1 c1 S[i] := by
    rcases hL4 with rfl | ⟨b, off, e, hB, hlt, hc⟩
    · simp at h1
    · exact ⟨b, off, e, hB, hlt, fun i hi => by
        obtain ⟨u, hu, a1, n1, c1, e2, hr, _⟩ := hc i hi
        exact ⟨u, hu, a1, n1, c1, e2, hr⟩⟩
  have hbel0 : Below w.heap.size w ((w.alloc (.cells #[rv, .slice (some ⟨sb, so, none⟩) S.length sc, .slice aa ad.length ac, .slice ua au.length uc, uv] 27)).alloc (.cells #[.slice none 0 0] 77)) := ((Below.refl _ _).alloc (Nat.le_refl _) _).alloc (by simp) _
  have hcf0 : ((w.alloc (.cells #[rv, .slice (some ⟨sb, so, none⟩) S.length sc, .slice aa ad.length ac, .slice ua au.length uc, uv] 27)).alloc (.cells #[.slice none 0 0] 77)).heap[w.heap.size]? = some (.cells #[rv, .slice (some ⟨sb, so, none⟩) S.length sc, .slice aa ad.length ac, .slice ua au.length uc, uv] 27 (0, 0)) := below_heap ((Below.refl _ _).alloc (Nat.le_refl _) _) (heap_new _ _) (lt_of_heap (heap_new _ _))
  have hT0 : IsRT ((w.alloc (.cells #[rv, .slice (some ⟨sb, so, none⟩) S.length sc, .slice aa ad.length ac, .slice ua au.length uc, uv] 27)).alloc (.cells #[.slice none 0 0] 77)) w.heap.size (w.heap.size + 1) none 0 [] := by
    have hn := heap_new (w.alloc (.cells #[rv, .slice (some ⟨sb, so, none⟩) S.length sc, .slice aa ad.length ac, .slice ua au.length uc, uv] 27)) (.cells #[.slice none 0 0] 77 (0, 0))
    rw [show (w.alloc (.cells #[rv, .slice (some ⟨sb, so, none⟩) S.length sc, .slice aa ad.length ac, .slice ua au.length uc, uv] 27)).heap.size = w.heap.size + 1 by simp] at hn
    exact ⟨by omega, hn, World.ownsRow_nil _ _ _ _, (fun x hx => by cases hx), Nat.zero_le _⟩
  have HE := Lib.hid hcell
  have HLM := Lib.hid hLm
  have HA := Lib.hid ha
  have HU := Lib.hid hu
  have H8 := Lib.hid h8
  have H1 := Lib.hid h1
  have HB0 := Lib.hid hbel0
  have HC0 := Lib.hid hcf0
  have HT0 := Lib.hid hT0
  clear hcell hLm ha hu hbel0 hcf0 hT0
  go_enter Tryz.func7, Tryz.ntmps7
  go_wp2_with fail
  generalize (w.alloc (.cells #[rv, .slice (some ⟨sb, so, none⟩) S.length sc, .slice aa ad.length ac, .slice ua au.length uc, uv] 27)).alloc (.cells #[.slice none 0 0] 77) = w0 at HB0 HC0 HT0 ⊢
  obtain ⟨N, hN⟩ : ∃ N, N = S.length := ⟨_, rfl⟩
  have HN := Lib.hid hN
  clear hN
  obtain ⟨rt, hrt⟩ : ∃ rt, rt = w.heap.size + 1 := ⟨_, rfl⟩
  rw [← hrt] at HT0 ⊢
  clear hrt
  go_loopw [5] (fun i wr => ∃ k : Nat, k ≤ S.length ∧ i = .int .i64 k ∧ Hid (Below w.heap.size w wr) ∧ Hid (wr.heap[w.heap.size]? = some (.cells #[rv, .slice (some ⟨sb, so, none⟩) S.length sc, .slice aa ad.length ac, .slice ua au.length uc, uv] 27 (0, 0))) ∧ Hid (∃ ro rc L, IsRT wr w.heap.size rt ro rc L ∧ Fresh S L k)) (fun i _ => N - (intOf i).toNat)
  case atStart => exact ⟨0, Nat.zero_le _, rfl, HB0, HC0, Lib.hid ⟨none, 0, [], HT0.out, rfl, fun i hi => by simp at hi⟩⟩
  case round =>
    obtain ⟨k, hk, rfl, HB, HC, HX⟩ := hrel
    obtain ⟨ro, rc, L, hT, hF⟩ := HX.out
    clear HX
    obtain rfl := hF.len
    have hrf := hT.field
    have s1 : wr.cell? ⟨w.heap.size, 1, none⟩ = some (.slice (some ⟨sb, so, none⟩) S.length sc) := by rw [cell_of_block HC.out]; rfl
    have s2 : wr.cell? ⟨w.heap.size, 2, none⟩ = some (.slice aa ad.length ac) := by rw [cell_of_block HC.out]; rfl
    have s3 : wr.cell? ⟨w.heap.size, 3, none⟩ = some (.slice ua au.length uc) := by rw [cell_of_block HC.out]; rfl
    have HT := Lib.hid hT
    have HF := Lib.hid hF
    have hsz : w.heap.size ≤ wr.heap.size := HB.out.size
    clear hT hF
    by_cases hlt : L.length < S.length
    · obtain ⟨u, hu1, a1, n1, c1, rfl, hr1⟩ := HE.out L.length hlt
      obtain rfl := hr1.1
      have hlm := HLM.out _ (List.getElem_mem hlt)
      have hu2 := (HB.out.cell (p := ⟨sb, so + L.length, none⟩) hsb).trans hu1
      have hr2 := hr1.below HB.out
      have hat := Lib.hid hr2.at
      have hatd := Lib.hid (hr2.below ((Below.refl wr.heap.size wr).drew)).at
      have hlb : Hid ((bcells S[L.length]).length = S[L.length].length * 1) := Lib.hid (by rw [bcells_length]; omega)
      have ek : Hid (((UInt8.ofNat (L.length + 1)).toNat : Int) = (L.length : Int) + 1) := Lib.hid (by have := H8.out; simp; omega)
      have hk8 : L.length < 8 := by have := H8.out; omega
      have f0d : wr.drew.cell? ⟨rt, 0, none⟩ = some (.slice ro L.length rc) := hrf
      have s1d : wr.drew.cell? ⟨w.heap.size, 1, none⟩ = some (.slice (some ⟨sb, so, none⟩) S.length sc) := s1
      have u1d : wr.drew.cell? ⟨sb, so + L.length, none⟩ = some (.slice a1 S[L.length].length c1) := hu2
      have HRF := Lib.hid hrf
      clear hr1 hr2 hu1
      go_wp2_with fail
      have hws : IntKind.i64.wrap ((L.length : Int) + 1) = (L.length : Int) + 1 := IntWalk.i64_in _ (by omega)
      have hw8 : IntKind.u8.wrap ((L.length : Int) + 1) = (L.length : Int) + 1 := by rw [IntKind.wrap_u8']; omega
      have hcells : ∀ b c, [Value.int .u8 ((L.length : Int) + 1), .slice b S[L.length].length c, .bool false, .int .u64 0, .bool false, .int .u32 0, .slice none 0 0] = ocells [fresh1 (UInt8.ofNat (L.length + 1)) S[L.length] b c] := fun b c => by
        rw [← ek.out]; rfl
      have HCL := Lib.hid hcells
      have hrow := HT.out.row
      have HROW := Lib.hid hrow
      clear hcells hrow
      go_region_law (first
        | (refine step_append_any rowU8 rfl (.const (.slice none 0 0)) (.tmp 37) (by rfl) w.heap.size (.slice none 0 0) 0 [] (by simp [Act.eval]) (World.ownsRow_nil _ _ _ _) a1 S[L.length].length c1 (bcells S[L.length]) (by simp [Act.eval, Act.put]) hlb.out (by first | exact hat.out | exact hatd.out) (bcells_one S[L.length]) (by unfold maxLen; omega) (by omega) (Nat.le_trans hsz (by simp)) ?_; intro b8 c8 w8 hown8 hg8 hat8; simp only [Nat.zero_add, List.nil_append] at hown8; have hB8 : Below wr.heap.size wr w8 := (by first | exact (Below.refl _ _).grown hg8 (Nat.le_refl _) (by simp [Value.ownBlock]) | exact ((Below.refl wr.heap.size wr).drew).grown hg8 (by simp) (by simp [Value.ownBlock])); have q0 : w8.cell? ⟨rt, 0, none⟩ = some (.slice ro L.length rc) := cell_later hB8 HRF.out; have q0d : w8.drew.cell? ⟨rt, 0, none⟩ = some (.slice ro L.length rc) := q0; have q0a := cell_alloc q0 (.cells #[.int .u8 ((L.length : Int) + 1), .slice b8 S[L.length].length c8, .bool false, .int .u64 0, .bool false, .int .u32 0, .slice none 0 0] 79 (0, 0)); have q0ad : (w8.alloc (.cells #[.int .u8 ((L.length : Int) + 1), .slice b8 S[L.length].length c8, .bool false, .int .u64 0, .bool false, .int .u32 0, .slice none 0 0] 79 (0, 0))).drew.cell? ⟨rt, 0, none⟩ = some (.slice ro L.length rc) := q0a; have q0da : (w8.drew.alloc (.cells #[.int .u8 ((L.length : Int) + 1), .slice b8 S[L.length].length c8, .bool false, .int .u64 0, .bool false, .int .u32 0, .slice none 0 0] 79 (0, 0))).cell? ⟨rt, 0, none⟩ = some (.slice ro L.length rc) := q0a; have HB8 := Lib.hid hB8; have HO8 := Lib.hid hown8; have HR8 := Lib.hid (owns_below HROW.out hB8); have hsz8 : w.heap.size ≤ w8.heap.size := Nat.le_trans hsz hB8.size; clear hg8 hat8 hB8 hown8)
        | (refine step_append_any rowOne rfl (.tmp 29) (.tmp 40) (by rfl) w.heap.size (.slice ro L.length rc) L.length (ocells L) (by simp [Act.eval, Act.put]) (owns_touch HR8.out (by repeat (first | exact Touch.refl _ _ | apply Touch.drew | apply Touch.alloc)) (fun _ _ => id)) (some ⟨w8.heap.size, 0, none⟩) 1 1 [.int .u8 ((L.length : Int) + 1), .slice b8 S[L.length].length c8, .bool false, .int .u64 0, .bool false, .int .u32 0, .slice none 0 0] (by simp [Act.eval, Act.put]) rfl (by first | exact At.arr w8 _ _ _ | exact At.arr w8.drew _ _ _) (one7 _ _ _ _) (by unfold maxLen; omega) (by omega) (Nat.le_trans hsz8 (by simp)) ?_; intro b9 c9 w9 hown9 hg9 hat9
           have HNN := Lib.hid (HT.out.push (X := [fresh1 (UInt8.ofNat (L.length + 1)) S[L.length] b8 c8]) (w9 := w9) (b9 := b9) (c9 := c9) HB8.out (fun x hx => by
             rw [List.mem_singleton.1 hx]
             exact ⟨HO8.out, World.ownsRow_nil _ _ _ _⟩) (by repeat (first | exact Below.refl _ _ | apply Below.drew | apply Below.alloc | simp)) (by rw [← HCL.out]; exact hown9) hg9 (by simp; omega))
           have hb9 := HNN.out.1
           have q1 : w9.cell? ⟨rt, 0, none⟩ = some (.slice ro L.length rc) := by rw [cell_of_block hb9]; rfl
           have qf : w9.frozen? ⟨rt, 0, none⟩ = false := blk_frozen hb9
           clear hown9 hg9 hat9 hb9)
        | fail)
      all_goals
        have HN2 := Lib.hid HNN.out.2.1
        have HB2 : Hid (Below w.heap.size w _) := Lib.hid (HB.out.trans HNN.out.2.2.1)
        have HC2 := Lib.hid (HNN.out.2.2.2 _ _ _ _ HC.out (by decide) (by decide))
        have HF2 := Lib.hid (HF.out.push hlt b8 c8)
        clear q1 qf q0 q0d q0a q0ad q0da f0d s1d u1d hu2 s1 s2 s3 hrf HNN
        go_wp2_with fail
        go_roundw
        case rel => exact ⟨L.length + 1, by omega, by go_num, HB2, HC2, Lib.hid ⟨_, _, _, HN2.out, HF2.out⟩⟩
        case measure => have := HN.out; simp [intOf]; omega
    · have hke : L.length = S.length := by omega
      have hF2 := HF.out
      rw [hke] at hF2
      have hcor := hF2.cor H1.out H8.out ad au
      have HCO := Lib.hid hcor
      have hreps : ∀ b c b' c', ∀ x ∈ L ++ [fresh1 0 ad b c, fresh1 255 au b' c'], x.rep.length ≤ 1000000 := fun b c b' c' x hx => by
        rcases List.mem_append.1 hx with hx | hx
        · obtain ⟨i, hi, rfl⟩ := List.getElem_of_mem hx
          obtain ⟨a, c, e⟩ := hF2.at_ i hi
          rw [e]; exact Nat.zero_le _
        · simp at hx
          rcases hx with rfl | rfl <;> exact Nat.zero_le _
      have HREP := Lib.hid hreps
      have ha1 := HA.out.below HB.out
      have hu1 := HU.out.below HB.out
      have hat := Lib.hid ha1.at
      have hatd := Lib.hid (ha1.below ((Below.refl wr.heap.size wr).drew)).at
      have HU1 := Lib.hid hu1
      have hlb := Lib.hid (show (bcells ad).length = ad.length * 1 by rw [bcells_length]; omega)
      have hlb2 := Lib.hid (show (bcells au).length = au.length * 1 by rw [bcells_length]; omega)
      have hL8 : L.length ≤ 8 := by rw [hke]; exact H8.out
      have f0d : wr.drew.cell? ⟨rt, 0, none⟩ = some (.slice ro L.length rc) := hrf
      have s2d : wr.drew.cell? ⟨w.heap.size, 2, none⟩ = some (.slice aa ad.length ac) := s2
      have s3d : wr.drew.cell? ⟨w.heap.size, 3, none⟩ = some (.slice ua au.length uc) := s3
      have HRF := Lib.hid hrf
      have HS3 := Lib.hid s3
      have HROW := Lib.hid HT.out.row
      have hkk : ¬ L.length < S.length := hlt
      clear hF2 hcor hreps ha1 hu1 hlt hke HF
      go_wp2_with fail
      go_region_law (first
        | (refine step_append_any rowU8 rfl (.const (.slice none 0 0)) (.tmp 50) (by rfl) w.heap.size (.slice none 0 0) 0 [] (by simp [Act.eval]) (World.ownsRow_nil _ _ _ _) aa ad.length ac (bcells ad) (by simp [Act.eval, Act.put]) hlb.out (by first | exact hat.out | exact hatd.out) (bcells_one ad) (by unfold maxLen; omega) (by omega) (Nat.le_trans hsz (by simp)) ?_; intro b7 c7 w7 hown7 hg7 hat7; simp only [Nat.zero_add, List.nil_append] at hown7; have hB7 : Below wr.heap.size wr w7 := (by first | exact (Below.refl _ _).grown hg7 (Nat.le_refl _) (by simp [Value.ownBlock]) | exact ((Below.refl wr.heap.size wr).drew).grown hg7 (by simp) (by simp [Value.ownBlock])); have q0 : w7.cell? ⟨rt, 0, none⟩ = some (.slice ro L.length rc) := cell_later hB7 HRF.out; have q0d : w7.drew.cell? ⟨rt, 0, none⟩ = some (.slice ro L.length rc) := q0; have q3 : w7.cell? ⟨w.heap.size, 3, none⟩ = some (.slice ua au.length uc) := cell_later hB7 HS3.out; have q3d : w7.drew.cell? ⟨w.heap.size, 3, none⟩ = some (.slice ua au.length uc) := q3; have HB7 := Lib.hid hB7; have HO7 := Lib.hid hown7; have hatu := Lib.hid (HU1.out.below hB7).at; have hatud := Lib.hid ((HU1.out.below hB7).below ((Below.refl w7.heap.size w7).drew)).at; have hsz7 : w.heap.size ≤ w7.heap.size := Nat.le_trans hsz hB7.size; have HQ7 := Lib.hid q0; clear hg7 hat7 hB7 hown7)
        | (refine step_append_any rowU8 rfl (.const (.slice none 0 0)) (.tmp 54) (by rfl) w.heap.size (.slice none 0 0) 0 [] (by simp [Act.eval]) (World.ownsRow_nil _ _ _ _) ua au.length uc (bcells au) (by simp [Act.eval, Act.put]) hlb2.out (by first | exact hatu.out | exact hatud.out) (bcells_one au) (by unfold maxLen; omega) (by omega) (Nat.le_trans hsz7 (by simp)) ?_; intro b8 c8 w8 hown8 hg8 hat8; simp only [Nat.zero_add, List.nil_append] at hown8; have hB8 : Below w7.heap.size w7 w8 := (by first | exact (Below.refl _ _).grown hg8 (Nat.le_refl _) (by simp [Value.ownBlock]) | exact ((Below.refl w7.heap.size w7).drew).grown hg8 (by simp) (by simp [Value.ownBlock])); have p0 : w8.cell? ⟨rt, 0, none⟩ = some (.slice ro L.length rc) := cell_later hB8 HQ7.out; have p0d : w8.drew.cell? ⟨rt, 0, none⟩ = some (.slice ro L.length rc) := p0; have p0a := cell_alloc p0 (.cells #[.int .u8 0, .slice b7 ad.length c7, .bool false, .int .u64 0, .bool false, .int .u32 0, .slice none 0 0, .int .u8 255, .slice b8 au.length c8, .bool false, .int .u64 0, .bool false, .int .u32 0, .slice none 0 0] 79 (0, 0)); have p0ad : (w8.alloc (.cells #[.int .u8 0, .slice b7 ad.length c7, .bool false, .int .u64 0, .bool false, .int .u32 0, .slice none 0 0, .int .u8 255, .slice b8 au.length c8, .bool false, .int .u64 0, .bool false, .int .u32 0, .slice none 0 0] 79 (0, 0))).drew.cell? ⟨rt, 0, none⟩ = some (.slice ro L.length rc) := p0a; have p0da : (w8.drew.alloc (.cells #[.int .u8 0, .slice b7 ad.length c7, .bool false, .int .u64 0, .bool false, .int .u32 0, .slice none 0 0, .int .u8 255, .slice b8 au.length c8, .bool false, .int .u64 0, .bool false, .int .u32 0, .slice none 0 0] 79 (0, 0))).cell? ⟨rt, 0, none⟩ = some (.slice ro L.length rc) := p0a; have HB8 := Lib.hid (HB7.out.trans (hB8.mono HB7.out.size)); have HO8 := Lib.hid hown8; have HO78 := Lib.hid (owns_below HO7.out hB8); have HR8 := Lib.hid (owns_below HROW.out HB8.out); have hsz8 : w.heap.size ≤ w8.heap.size := Nat.le_trans hsz7 hB8.size; clear hg8 hat8 hB8 hown8)
        | (refine step_append_any rowOne rfl (.tmp 48) (.tmp 57) (by rfl) w.heap.size (.slice ro L.length rc) L.length (ocells L) (by simp [Act.eval, Act.put]) (owns_touch HR8.out (by repeat (first | exact Touch.refl _ _ | apply Touch.drew | apply Touch.alloc)) (fun _ _ => id)) (some ⟨w8.heap.size, 0, none⟩) 2 2 [.int .u8 0, .slice b7 ad.length c7, .bool false, .int .u64 0, .bool false, .int .u32 0, .slice none 0 0, .int .u8 255, .slice b8 au.length c8, .bool false, .int .u64 0, .bool false, .int .u32 0, .slice none 0 0] (by simp [Act.eval, Act.put]) rfl (by first | exact At.arr w8 _ _ _ | exact At.arr w8.drew _ _ _) (one14 _ _ _ _ _ _ _ _) (by unfold maxLen; omega) (by omega) (Nat.le_trans hsz8 (by simp)) ?_; intro b9 c9 w9 hown9 hg9 hat9
           have HNN := Lib.hid (HT.out.push (X := [fresh1 0 ad b7 c7, fresh1 255 au b8 c8]) (w9 := w9) (b9 := b9) (c9 := c9) HB8.out (fun x hx => by
             simp at hx
             rcases hx with rfl | rfl
             · exact ⟨HO78.out, World.ownsRow_nil _ _ _ _⟩
             · exact ⟨HO8.out, World.ownsRow_nil _ _ _ _⟩) (by repeat (first | exact Below.refl _ _ | apply Below.drew | apply Below.alloc | simp)) hown9 hg9 (by simp; omega))
           have hb9 := HNN.out.1
           have q1 : w9.cell? ⟨rt, 0, none⟩ = some (.slice ro L.length rc) := by rw [cell_of_block hb9]; rfl
           have qf : w9.frozen? ⟨rt, 0, none⟩ = false := blk_frozen hb9
           clear hown9 hg9 hat9 hb9)
        | fail)
      all_goals
        have HN2 := Lib.hid HNN.out.2.1
        have HB2 : Hid (Below w.heap.size w _) := Lib.hid (HB.out.trans HNN.out.2.2.1)
        have HCC := Lib.hid (HCO.out b7 b8 c7 c8)
        have HRR := Lib.hid (HREP.out b7 c7 b8 c8)
        clear q1 qf q0 q0d q3 q3d p0 p0d p0a p0ad p0da f0d s2d s3d s1 s2 s3 hrf HNN
        go_wp2_with fail
        go_ret2
        exact ⟨rt, b9, c9, _, rfl, HB2.out, HN2.out, HCC.out, HRR.out⟩

end Go.Proofs.YthadgnaaipdpaaaGreatDoor
