/- The package sessions: New; conditions: those typed. -/
import Derived.Test.YthadgnaaipdpaaaGreatDoorSessT
import Derived.IntWalk
import Derived.Laws.BitsAllLaws
namespace Go.Proofs.YthadgnaaipdpaaaGreatDoor
open Go.RowKit
set_option linter.unusedVariables false
set_option maxRecDepth 100000

set_option maxHeartbeats 400000 in
theorem bclone_ty (a : Option Addr) (n c : Nat) (l : List UInt8) (w : World) (hl : IsB w a n c l) (hm : l.length ≤ 140737488351232) :
    Calls Tryz.prog 27 #[.slice a n c] w fun e w' => ∃ a' c', e = .returned (.slice a' l.length c') ∧ Below w.heap.size w w' ∧ IsBT w' a' l.length c' l ∧ ∀ b off, a' = some ⟨b, off, none⟩ → w.heap.size ≤ b := by
  have hq : ∀ (w : World) (a : Option Addr) (n c : Nat), (binOp .eql 24 (.slice a n c) (.slice none 0 0)).run Tryz.prog w = .ok (.bool a.isNone) w := fun w a n c => Lib.run_eql_slice_nil w _ _ a n c 0 0 Tryz.underlying24
  cases a with
  | none =>
    have hnil : l = [] := by
      obtain ⟨_, _, _, ⟨h, _⟩ | ⟨_, _, h, _⟩⟩ := hl
      · exact h
      · cases h
    subst hnil
    clear hl
    go_enter Tryz.func27, Tryz.ntmps27
    go_wp2
    go_ret
    exact ⟨none, 0, rfl, Below.refl _ _, ⟨IsB.nil _, fun b off h => by cases h⟩, fun b off h => by cases h⟩
  | some x =>
    obtain rfl := hl.1
    have hat := hl.below ((Below.refl _ w).alloc (Nat.le_refl _) (.cells #[] 5)) |>.at
    clear hl
    go_enter Tryz.func27, Tryz.ntmps27
    go_wp2_with (at_builtin; refine wpList_append_any rowU8 rfl _ _ rfl w.heap.size _ 0 [] rfl (World.ownsRow_made w #[] 0 (Nat.le_refl _) (Nat.zero_le _) rfl) (some x) l.length c (bcells l) rfl (by rw [bcells_length]; omega) hat (bcells_one l) (by unfold maxLen; omega) (by omega) (by simp) ?_; intro b2 c2 w2 hown2 hg2 hat2; simp only [Nat.zero_add, List.nil_append] at hown2 hat2)
    go_ret
    refine ⟨b2, c2, rfl, ((Below.refl _ w).alloc (Nat.le_refl _) _).grown hg2 (by simp) (fun j hj => ?_), ⟨isB_of_owns hown2 rfl, fun g off e => ?_⟩, fun b off hb => ?_⟩
    · have hj' : some w.heap.size = some j := hj
      cases hj'
      exact Nat.le_refl _
    · rcases hown2.2 with ⟨h0, h1⟩ | ⟨g', cap, cur, hv, hB, hg, _⟩
      · subst e; cases h0
      · cases hv; cases e; exact ⟨(cur, 0, 0), hg⟩
    · subst hb
      exact (hown2.lt b rfl).1

theorem sec_put {W w' : World} {bt b1 b2 b3 : Nat} {T : Tbl} {k : UInt8} {a : Option Addr} {c : Nat} {l : List UInt8} {f g : UInt8 → Option Value} (h : IsTbl W bt b1 b2 b3 T) (hl : IsBT W a l.length c l)
    (hr : SecRel W f T.secrets) (hg : ∀ j, j ≠ k → g j = f j) (hd : MapF uk w' b1 (fput g k (.slice a l.length c))) (ht : Touch (fun k => k = b1) W w') :
    IsTbl w' bt b1 b2 b3 { T with secrets := fun j => if j = k then some l else T.secrets j } := by
  have hmo : MapsOnly (fun k => k = b1) W := fun k hk => h.maps k (.inl hk)
  obtain ⟨f3, hf3, hr3⟩ := h.m3
  refine ⟨h.n12, h.n13, h.n23, ht.heap h.cells (hmo.cells h.cells), ⟨_, hd, fun j => ?_⟩, h.m2.touch uk ht (Ne.symm h.n12), ⟨f3, hf3.touch uk ht (Ne.symm h.n13), hr3.keep ht hmo⟩⟩
  unfold fput
  have hr' := (hr.keep ht hmo) j
  show match (if j = k then some l else T.secrets j) with | none => _ | some x => _
  by_cases hjk : j = k
  · rw [if_pos hjk, if_pos hjk]
    exact ⟨_, _, rfl, hl.keep ht hmo⟩
  · rw [if_neg hjk, if_neg hjk, hg j hjk]
    exact hr'

theorem sec_store {W : World} {bt b1 b2 b3 : Nat} {T : Tbl} (k : UInt8) {a : Option Addr} {c : Nat} {l : List UInt8} (h : IsTbl W bt b1 b2 b3 T) (hl : IsBT W a l.length c l) :
    ∃ w', (Instr.mapUpdate 70 (.map (some b1)) (.int .u8 k.toNat) (.slice a l.length c)).run Tryz.prog W = .ok () w' ∧ Touch (fun k => k = b1) W w' ∧ IsTbl w' bt b1 b2 b3 { T with secrets := fun j => if j = k then some l else T.secrets j } := by
  obtain ⟨f, hf, hr⟩ := h.m1
  obtain ⟨w', hrun, hd, ht⟩ := hf.store uk (t := 70) Tryz.underlying70 k (.slice a l.length c)
  exact ⟨w', hrun, ht, sec_put h hl hr (fun _ _ => rfl) hd ht⟩

theorem sec_entry {W : World} {bt b1 b2 b3 : Nat} {T : Tbl} (k : UInt8) {a : Option Addr} {c : Nat} {l : List UInt8} (h : IsTbl W bt b1 b2 b3 T) (hl : IsBT W a l.length c l) (hk : T.secrets k = none) :
    ∃ w1 n w2, (Instr.mapEntry 70 (.map (some b1)) (.int .u8 k.toNat)).run Tryz.prog W = .ok (.tuple #[.slice none 0 0, .int .i64 (n : Nat)]) w1 ∧ Touch (fun k => k = b1) W w1 ∧
      (Instr.entryStore 70 (.map (some b1)) (.int .i64 (n : Nat)) (.slice a l.length c)).run Tryz.prog w1 = .ok () w2 ∧ Touch (fun k => k = b1) W w2 ∧ IsTbl w2 bt b1 b2 b3 { T with secrets := fun j => if j = k then some l else T.secrets j } := by
  obtain ⟨f, hf, hr⟩ := h.m1
  have hfk : f k = none := by have := hr k; rw [hk] at this; exact this
  obtain ⟨w1, n, hrun, hd, ht⟩ := hf.entry uk (t := 70) Tryz.underlying70 zeroBs k hfk
  obtain ⟨w2, hrun2, hd2, ht2⟩ := hd.store uk 70 (.slice a l.length c)
  exact ⟨w1, n, w2, hrun, ht, hrun2, ht.trans ht2, sec_put h hl hr (fun _ _ => rfl) (by rw [fput_fput] at hd2; exact hd2) (ht.trans ht2)⟩

def emptyT : Tbl := ⟨fun _ => none, fun _ => none, fun _ => none⟩
/-- The bidders' secrets. -/
def secUp (L : List (List UInt8)) (k : UInt8) : Option (List UInt8) := if k.toNat = 0 then none else L[k.toNat - 1]?
theorem secUp_nil : secUp [] = fun _ => none := by funext k; unfold secUp; split <;> simp
theorem secUp_snoc (L : List (List UInt8)) (j : Nat) (hj : j < L.length) (h8 : L.length ≤ 8) : secUp (L.take (j + 1)) = fun k => if k = UInt8.ofNat (j + 1) then some L[j] else secUp (L.take j) k := by
  funext k
  unfold secUp
  have hk : (UInt8.ofNat (j + 1)).toNat = j + 1 := by simp; omega
  by_cases h : k = UInt8.ofNat (j + 1)
  · have : k.toNat = j + 1 := by rw [h, hk]
    rw [if_pos h, if_neg (by omega), this]
    simp [hj]
  · have h2 : k.toNat ≠ j + 1 := fun e => h (UInt8.toNat_inj.1 (by rw [hk]; exact e))
    rw [if_neg h]
    by_cases h0 : k.toNat = 0
    · rw [if_pos h0, if_pos h0]
    · rw [if_neg h0, if_neg h0, List.getElem?_take, List.getElem?_take]
      by_cases h3 : k.toNat - 1 < j
      · rw [if_pos h3, if_pos (by omega)]
      · rw [if_neg h3, if_neg (by omega)]
/-- The secrets of a config. -/
def secF (L : List (List UInt8)) (ad au : List UInt8) : UInt8 → Option (List UInt8) := fun k => if k = 255 then some au else if k = 0 then some ad else secUp L k
def newT (L : List (List UInt8)) (ad au : List UInt8) : Tbl := ⟨secF L ad au, fun _ => none, fun _ => none⟩

theorem emptyTbl (w : World) : IsTbl (((w.alloc (.map #[] 0)).alloc (.map #[] 0)).alloc (.map #[] 0) |>.alloc (.cells #[.map (some w.heap.size), .map (some (w.heap.size + 1)), .map (some (w.heap.size + 2))] 74 (0, 0))) (w.heap.size + 3) w.heap.size (w.heap.size + 1) (w.heap.size + 2) emptyT := by
  have k1 := MapF.made uk w
  have k2 := MapF.made uk (w.alloc (.map #[] 0))
  have k3 := MapF.made uk ((w.alloc (.map #[] 0)).alloc (.map #[] 0))
  have al : ∀ (w : World) (o : Obj), Below w.heap.size w (w.alloc o) := fun w o => (Below.refl _ _).alloc (Nat.le_refl _) _
  have e1 : (w.alloc (.map #[] 0)).heap.size = w.heap.size + 1 := by simp
  have e2 : ((w.alloc (.map #[] 0)).alloc (.map #[] 0)).heap.size = w.heap.size + 2 := by simp
  have e3 : (((w.alloc (.map #[] 0)).alloc (.map #[] 0)).alloc (.map #[] 0)).heap.size = w.heap.size + 3 := by simp
  rw [e1] at k2
  rw [e2] at k3
  refine ⟨by omega, by omega, by omega, ?_, ⟨_, ((k1.below uk (al _ _)).below uk (al _ _)).below uk (al _ _), fun _ => rfl⟩, (k2.below uk (al _ _)).below uk (al _ _), ⟨_, k3.below uk (al _ _), fun _ => rfl⟩⟩
  have := heap_new (((w.alloc (.map #[] 0)).alloc (.map #[] 0)).alloc (.map #[] 0)) (.cells #[.map (some w.heap.size), .map (some (w.heap.size + 1)), .map (some (w.heap.size + 2))] 74 (0, 0))
  rw [e3] at this
  exact this

set_option maxHeartbeats 1000000 in
theorem snew_bad (rv uv : Value) (sa : Option Addr) (sn sc : Nat) (aa : Option Addr) (an ac : Nat) (ua : Option Addr) (un uc : Nat) (w : World) (hn : sn < 1 ∨ 8 < sn) :
    Calls Tryz.prog 6 #[.agg #[rv, .slice sa sn sc, .slice aa an ac, .slice ua un uc, uv]] w fun e w' => e = .returned (.tuple #[.pointer none, .int .i64 1]) ∧ Below w.heap.size w w' := by
  rcases hn with hn | hn
  · have d1 : decide ((sn : Int) < 1) = true := by rw [decide_eq_true_eq]; omega
    clear hn
    go_enter Tryz.func6, Tryz.ntmps6
    go_wp2_with fail
    go_ret2
    exact ⟨rfl, (Below.refl _ _).alloc (Nat.le_refl _) _⟩
  · have d1 : decide ((sn : Int) < 1) = false := by rw [decide_eq_false_iff_not]; omega
    have d2 : decide ((8 : Int) < (sn : Int)) = true := by rw [decide_eq_true_eq]; omega
    clear hn
    go_enter Tryz.func6, Tryz.ntmps6
    go_wp2_with fail
    go_ret2
    exact ⟨rfl, (Below.refl _ _).alloc (Nat.le_refl _) _⟩

theorem IsTbl.only1 {w : World} {bt b1 b2 b3 : Nat} {T : Tbl} (h : IsTbl w bt b1 b2 b3 T) : MapsOnly (fun k => k = b1) w := fun k hk => h.maps k (.inl hk)
theorem secUp_255 (L : List (List UInt8)) (ad : List UInt8) (h8 : L.length ≤ 8) : (if (255 : UInt8) = 0 then some ad else secUp L 255) = none := by
  rw [if_neg (by decide)]
  unfold secUp
  rw [if_neg (by decide)]
  exact List.getElem?_eq_none (by simp; omega)

set_option maxHeartbeats 4000000 in
theorem snew_good (rv uv : Value) (sa : Option Addr) (sn sc : Nat) (L : List (List UInt8)) (aa : Option Addr) (an ac : Nat) (ad : List UInt8) (ua : Option Addr) (un uc : Nat) (au : List UInt8) (w : World) (B : Nat)
    (hL : IsBB w B sa sn sc L) (ha : IsB w aa an ac ad) (hu : IsB w ua un uc au) (h1 : 1 ≤ L.length) (h8 : L.length ≤ 8) (hLm : ∀ l ∈ L, l.length ≤ 140737488351232) (ham : ad.length ≤ 140737488351232) (hum : au.length ≤ 140737488351232) :
    Calls Tryz.prog 6 #[.agg #[rv, .slice sa sn sc, .slice aa an ac, .slice ua un uc, uv]] w fun e w' => ∃ bt b1 b2 b3, e = .returned (.tuple #[.pointer (some ⟨bt, 0, none⟩), .int .i64 0]) ∧ Below w.heap.size w w' ∧ IsTbl w' bt b1 b2 b3 (newT L ad au) ∧
      w.heap.size ≤ bt ∧ w.heap.size ≤ b1 ∧ w.heap.size ≤ b2 ∧ w.heap.size ≤ b3 := by
  obtain rfl := hL.1
  obtain rfl := ha.1
  obtain rfl := hu.1
  have d1 : decide ((L.length : Int) < 1) = false := by rw [decide_eq_false_iff_not]; omega
  have d2 : decide ((8 : Int) < (L.length : Int)) = false := by rw [decide_eq_false_iff_not]; omega
  obtain ⟨_, hLc, hLc2, hL4⟩ := hL
  obtain ⟨sb, so, rfl, _, hsb, hcell⟩ : ∃ b off, sa = some ⟨b, off, none⟩ ∧ B ≤ b ∧ b < w.heap.size ∧ ∀ i (h : i < L.length), ∃ u, w.cell? ⟨b, off + i, none⟩ = some u ∧ ReadAs w B u L[i] := by
    rcases hL4 with rfl | h
    · simp at h1
    · exact h
  have hmm := @run_makeMap Tryz.prog
  have hT0 := emptyTbl (w.alloc (.cells #[rv, .slice (some ⟨sb, so, none⟩) L.length sc, .slice aa ad.length ac, .slice ua au.length uc, uv] 27))
  have hbel0 : Below w.heap.size w (((((w.alloc (.cells #[rv, .slice (some ⟨sb, so, none⟩) L.length sc, .slice aa ad.length ac, .slice ua au.length uc, uv] 27)).alloc (.map #[] 0)).alloc (.map #[] 0)).alloc (.map #[] 0)).alloc (.cells #[.map (some (w.heap.size + 1)), .map (some (w.heap.size + 1 + 1)), .map (some (w.heap.size + 1 + 1 + 1))] 74)) :=
    (((((Below.refl _ _).alloc (Nat.le_refl _) _).alloc (by simp) _).alloc (by simp; omega) _).alloc (by simp; omega) _).alloc (by simp; omega) _
  have hcf0 : (w.alloc (.cells #[rv, .slice (some ⟨sb, so, none⟩) L.length sc, .slice aa ad.length ac, .slice ua au.length uc, uv] 27)).heap[w.heap.size]? = some (.cells #[rv, .slice (some ⟨sb, so, none⟩) L.length sc, .slice aa ad.length ac, .slice ua au.length uc, uv] 27 (0, 0)) := heap_new w _
  have e0 : (w.alloc (.cells #[rv, .slice (some ⟨sb, so, none⟩) L.length sc, .slice aa ad.length ac, .slice ua au.length uc, uv] 27)).heap.size = w.heap.size + 1 := by simp
  rw [e0] at hT0
  have hcf := below_heap (B := w.heap.size + 1) (w' := (((((w.alloc (.cells #[rv, .slice (some ⟨sb, so, none⟩) L.length sc, .slice aa ad.length ac, .slice ua au.length uc, uv] 27)).alloc (.map #[] 0)).alloc (.map #[] 0)).alloc (.map #[] 0)).alloc (.cells #[.map (some (w.heap.size + 1)), .map (some (w.heap.size + 1 + 1)), .map (some (w.heap.size + 1 + 1 + 1))] 74))) (((((Below.refl _ _).alloc (by simp) _).alloc (by simp) _).alloc (by simp) _).alloc (by simp) _) hcf0 (by omega)
  have hT : IsTbl (((((w.alloc (.cells #[rv, .slice (some ⟨sb, so, none⟩) L.length sc, .slice aa ad.length ac, .slice ua au.length uc, uv] 27)).alloc (.map #[] 0)).alloc (.map #[] 0)).alloc (.map #[] 0)).alloc (.cells #[.map (some (w.heap.size + 1)), .map (some (w.heap.size + 1 + 1)), .map (some (w.heap.size + 1 + 1 + 1))] 74)) (w.heap.size + 1 + 1 + 1 + 1) (w.heap.size + 1) (w.heap.size + 1 + 1) (w.heap.size + 1 + 1 + 1) emptyT := hT0
  have HT := Lib.hid hT
  have HB := Lib.hid hbel0
  have HC := Lib.hid hcf
  have HE := Lib.hid hcell
  have H8 := Lib.hid h8
  clear hT0 hbel0 hcf0 e0 hcf hT hcell hL4
  go_enter Tryz.func6, Tryz.ntmps6
  go_wp2_with fail
  have hT := HT.out
  have hB0 := HB.out
  have hC := HC.out
  clear HT HB HC hmm
  generalize ((((w.alloc (.cells #[rv, .slice (some ⟨sb, so, none⟩) L.length sc, .slice aa ad.length ac, .slice ua au.length uc, uv] 27)).alloc (.map #[] 0)).alloc (.map #[] 0)).alloc (.map #[] 0)).alloc (.cells #[.map (some (w.heap.size + 1)), .map (some (w.heap.size + 1 + 1)), .map (some (w.heap.size + 1 + 1 + 1))] 74) = W3 at hT hB0 hC ⊢
  obtain ⟨bt, hbt⟩ : ∃ bt, bt = w.heap.size + 1 + 1 + 1 + 1 := ⟨_, rfl⟩
  obtain ⟨b3, hb3⟩ : ∃ b, b = w.heap.size + 1 + 1 + 1 := ⟨_, rfl⟩
  obtain ⟨b2, hb2⟩ : ∃ b, b = w.heap.size + 1 + 1 := ⟨_, rfl⟩
  obtain ⟨b1, hb1⟩ : ∃ b, b = w.heap.size + 1 := ⟨_, rfl⟩
  rw [← hbt, ← hb3, ← hb2, ← hb1] at hT ⊢
  have hge : Hid (w.heap.size ≤ bt ∧ w.heap.size ≤ b1 ∧ w.heap.size ≤ b2 ∧ w.heap.size ≤ b3) := Lib.hid (by omega)
  clear hbt hb3 hb2 hb1
  go_loopw [25] (fun i wr => ∃ j : Nat, j ≤ L.length ∧ i = .int .i64 j ∧ Hid (IsTbl wr bt b1 b2 b3 ⟨secUp (L.take j), fun _ => none, fun _ => none⟩) ∧ Hid (Below w.heap.size w wr) ∧ Hid (wr.heap[w.heap.size]? = some (.cells #[rv, .slice (some ⟨sb, so, none⟩) L.length sc, .slice aa ad.length ac, .slice ua au.length uc, uv] 27 (0, 0)))) (fun i _ => L.length - (intOf i).toNat)
  case atStart => exact ⟨0, Nat.zero_le _, rfl, Lib.hid (by rw [List.take_zero, secUp_nil]; exact hT), Lib.hid hB0, Lib.hid hC⟩
  case round =>
    obtain ⟨j, hj, rfl, HTr, HBr, HCr⟩ := hrel
    by_cases hlt : j < L.length
    · obtain ⟨u, hu1, a1, n1, c1, rfl, hr1, _⟩ := HE.out j hlt
      obtain rfl := hr1.1
      have hlm := hLm _ (List.getElem_mem hlt)
      have hu2 := (HBr.out.cell (p := ⟨sb, so + j, none⟩) hsb).trans hu1
      have hr2 := Lib.hid ((hr1.below HBr.out).below ((Below.refl _ wr).drew))
      have hTd := Lib.hid (HTr.out.below ((Below.refl _ wr).drew))
      have f0 := HTr.out.field.1
      have ek : ((UInt8.ofNat (j + 1)).toNat : Int) = (j : Int) + 1 := by have := H8.out; simp; omega
      have hsn := secUp_snoc L j hlt H8.out
      have hj8 : j < 8 := by have := H8.out; omega
      have EK := Lib.hid ek
      have SN := Lib.hid hsn
      clear hu1 hr1 ek hsn
      go_wp2_with fail
      have hws : IntKind.i64.wrap ((j : Int) + 1) = (j : Int) + 1 := IntWalk.i64_in _ (by omega)
      have hw8 : IntKind.u8.wrap ((j : Int) + 1) = (j : Int) + 1 := by rw [IntKind.wrap_u8']; omega
      go_region_held3 (fun w' => w'.cell? ⟨bt, 0, none⟩ = some (.map (some b1))) (assumption) (first
        | (go_at_call 27; refine (bclone_ty a1 _ c1 L[j] _ hr2.out hlm).mono ?_; rintro e w1 ⟨a', c', rfl, hb1', hB1, hf1⟩; have hT1 := hTd.out.below hb1'; have g1 := hT1.field.1; obtain ⟨w2, hrun2, ht2, hT2⟩ := sec_store (UInt8.ofNat (j + 1)) hT1 hB1; rw [EK.out] at hrun2; have g2 := hT2.field.1)
        | fail)
      have hCd := below_heap (((Below.refl _ wr).drew).trans hb1') HCr.out (lt_of_heap HCr.out)
      have hC2 := ht2.heap hCd (hT1.only1.cells hCd)
      have hB2 := (HBr.out.trans (((Below.refl _ wr).drew.trans hb1').mono HBr.out.size))
      have hB3 := hB2.trans (ht2.below (B := w.heap.size) hB2.size (fun k hk e => by have := hge.out; omega))
      have hT3 : IsTbl w2 bt b1 b2 b3 ⟨secUp (L.take (j + 1)), fun _ => none, fun _ => none⟩ := by rw [SN.out]; exact hT2
      have K1 := Lib.hid hT3
      have K2 := Lib.hid hB3
      have K3 := Lib.hid hC2
      clear hT2 hT3 hB2 hB3 hCd hC2 ht2 hT1 hB1 hf1 hrun2 hws hw8
      go_wp2_with fail
      go_roundw
      case rel => exact ⟨j + 1, by omega, by go_num, K1, K2, K3⟩
      case measure => simp [intOf]; omega
    · have hjj : j = L.length := by omega
      subst hjj
      have hT1 := HTr.out
      rw [List.take_length] at hT1
      have hTd := Lib.hid (hT1.below ((Below.refl _ wr).drew))
      have f0 := hT1.field.1
      have f2 : wr.cell? ⟨w.heap.size, 2, none⟩ = some (.slice aa ad.length ac) := by rw [cell_of_block HCr.out]; rfl
      have f3 : wr.cell? ⟨w.heap.size, 3, none⟩ = some (.slice ua au.length uc) := by rw [cell_of_block HCr.out]; rfl
      have hA := Lib.hid ((ha.below HBr.out).below ((Below.refl _ wr).drew))
      have hU := Lib.hid ((hu.below HBr.out).below ((Below.refl _ wr).drew))
      have n255 := Lib.hid (secUp_255 L ad H8.out)
      clear hT1 ha hu
      go_wp2_with fail
      go_region_held3 (fun w' => w'.cell? ⟨bt, 0, none⟩ = some (.map (some b1)) ∧ w'.cell? ⟨w.heap.size, 2, none⟩ = some (.slice aa ad.length ac) ∧ w'.cell? ⟨w.heap.size, 3, none⟩ = some (.slice ua au.length uc)) (refine ⟨?_, ?_, ?_⟩ <;> assumption) (first
        | (go_at_call 27; refine (bclone_ty aa _ ac ad _ hA.out ham).mono ?_; rintro e w1 ⟨a1, c1, rfl, hb1', hB1, _⟩; have g0 := cell_later hb1' f0; have g2 := cell_later hb1' f2; have g3 := cell_later hb1' f3)
        | (go_at_call 27; refine (bclone_ty ua _ uc au _ (hU.out.below hb1') hum).mono ?_; rintro e w2 ⟨a2, c2, rfl, hb2', hB2, _⟩; have p0 := cell_later hb2' g0; have p2 := cell_later hb2' g2; have p3 := cell_later hb2' g3; have hT2 := (hTd.out.below hb1').below hb2'; have hmo2 := hT2.only1;
            obtain ⟨w3, n3, w4, hrun3, ht3, hrun4, ht4, hT4⟩ := sec_entry 0 hT2 (hB1.below hb2') (show secUp L 0 = none from if_pos rfl); have q0 := ht3.cell p0 (hmo2.cell p0); have q2 := ht3.cell p2 (hmo2.cell p2); have q3 := ht3.cell p3 (hmo2.cell p3); have r0 := ht4.cell p0 (hmo2.cell p0); have r2 := ht4.cell p2 (hmo2.cell p2); have r3 := ht4.cell p3 (hmo2.cell p3); have hmo4 := hT4.only1;
            obtain ⟨w5, n5, w6, hrun5, ht5, hrun6, ht6, hT6⟩ := sec_entry 255 hT4 (hB2.keep ht4 hmo2) n255.out; have s0 := ht5.cell r0 (hmo4.cell r0); have s2 := ht5.cell r2 (hmo4.cell r2); have s3 := ht5.cell r3 (hmo4.cell r3); have t0 := ht6.cell r0 (hmo4.cell r0); have t2 := ht6.cell r2 (hmo4.cell r2); have t3 := ht6.cell r3 (hmo4.cell r3); have hrun3' : (Instr.mapEntry 70 (.map (some b1)) (.int .u8 0)).run Tryz.prog w2 = .ok (.tuple #[.slice none 0 0, .int .i64 (n3 : Nat)]) w3 := hrun3; have hrun5' : (Instr.mapEntry 70 (.map (some b1)) (.int .u8 255)).run Tryz.prog w4 = .ok (.tuple #[.slice none 0 0, .int .i64 (n5 : Nat)]) w5 := hrun5; clear hrun3 hrun5)
        | fail)
      have hBx := (HBr.out.trans ((((Below.refl _ wr).drew.trans hb1').trans (hb2'.mono hb1'.size)).mono HBr.out.size))
      have hBy := hBx.trans (ht4.below (B := w.heap.size) hBx.size (fun k hk e => by have := hge.out; omega))
      have hBz := hBy.trans (ht6.below (B := w.heap.size) hBy.size (fun k hk e => by have := hge.out; omega))
      have K1 := Lib.hid hT6
      have K2 := Lib.hid hBz
      clear hT2 hT4 hT6 hBx hBy hBz ht3 ht4 ht5 ht6 hmo2 hmo4 hB1 hB2
      go_wp2_with fail
      go_ret2
      exact ⟨bt, b1, b2, b3, rfl, K2.out, K1.out, hge.out⟩

end Go.Proofs.YthadgnaaipdpaaaGreatDoor
