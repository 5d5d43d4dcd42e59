/- The statements' helpers TwinConfig and LeftConfig; no condition but those typed. -/
import Derived.Test.YthadgnaaipdpaaaGreatDoorTwinC
import Derived.Test.YthadgnaaipdpaaaGreatDoorCellRes
import Derived.Deep.RegionLaw
namespace Go.Proofs.YthadgnaaipdpaaaGreatDoor
open Go.RowKit
set_option linter.unusedVariables false
set_option linter.unusedSimpArgs false
set_option maxRecDepth 100000

theorem step_store_whole {P : Program} {w : World} {ops : Array Oper} {o : Oper} {a : Act} {K : Act → World → Prop} {Q : Exit → Act → World → Prop} {E : Prop} (hgd : o.guard = none) (t : TypeId) (x y : Operand) (ho : o.op = .store t x y)
    (bz : Nat) (cs : List Value) (C : Array Value) (ty : TypeId) (hg : w.heap[bz]? = some (.cells C ty (0, 0))) (hx : a.eval x = .pointer (some ⟨bz, 0, none⟩)) (hy : a.eval y = .agg cs.toArray) (hfit : cs.length = C.size)
    (hi : (P.info? t).map (·.size) = some cs.length) (h1 : ∀ v ∈ cs, v.oneCell' = true)
    (h : ∀ w', Touch (fun k => k = bz) w w' → w'.heap[bz]? = some (.cells cs.toArray ty (0, 0)) → K (a.put o.dst undef) w') :
    if Region.wanted o (yielded ops a.tmps) = true then Oper.wp P o a w K Q else E := by
  have hw : Region.wanted o (yielded ops a.tmps) = true := by simp [Region.wanted, hgd]
  rw [if_pos hw]
  refine wp_store_mid t x y ho bz 0 cs.toArray hx hy (there_row hg _ _ (by simp; omega)) (by simpa using hi) (all_oneCell_toArray h1) ?_
  obtain ⟨g, ht⟩ := setCells_heap P w bz 0 cs C ty hg (by omega) h1
  rw [List.take_zero, List.nil_append, List.drop_eq_nil_of_le (by simp; omega), List.append_nil] at g
  exact h _ ht g

/-- A twin of ints: its whole block. -/
def TwI (w : World) (g : Nat) (l : List Int) : Prop := w.heap[g]? = some (.cells (icells l ++ [Value.int .i64 77]).toArray 3 (0, 0))
theorem TwI.twin {w : World} {g : Nat} {l : List Int} (h : TwI w g l) : IsTwinI w g l := by
  refine ⟨lt_of_heap h, fun i hi => ?_, ?_⟩
  · rw [cell_of_block h, List.getElem?_toArray, List.getElem?_append_left (by rw [icells_length]; exact hi)]
    simp [icells, hi]
  · rw [cell_of_block h, List.getElem?_toArray, List.getElem?_append_right (by rw [icells_length]; exact Nat.le_refl _), icells_length, Nat.sub_self]; rfl
theorem twinI_ex (a : Option Addr) (m cap : Nat) (l : List Int) (w : World) (hm : l.length ≤ 1000000000) (h : IsI w a m cap l) :
    Calls Tryz.prog 25 #[.slice a m cap] w fun e w' => ∃ g, e = .returned (.slice (some ⟨g, 0, none⟩) l.length (l.length + 1)) ∧ Below w.heap.size w w' ∧ TwI w' g l ∧ w.heap.size ≤ g := by
  obtain rfl := h.1
  refine (twinI_any a l.length cap l w hm h).mono ?_
  rintro e w' ⟨he, hb, ho⟩
  exact ⟨_, he, hb, (row_of_own1 ho).1, Nat.le_refl _⟩
theorem twinB_ex (a : Option Addr) (m cap : Nat) (l : List UInt8) (w : World) (hm : l.length ≤ 140737488351232) (h : IsB w a m cap l) :
    Calls Tryz.prog 10 #[.slice a m cap] w fun e w' => ∃ g, e = .returned (.slice (some ⟨g, 0, none⟩) l.length (l.length + 1)) ∧ Below w.heap.size w w' ∧ TwB w' g l ∧ w.heap.size ≤ g :=
  (twinB_any a m cap l w hm h).mono fun e w' ⟨he, hb, ho⟩ => ⟨_, he, hb, ho, Nat.le_refl _⟩

/-- A config that reads as data. -/
structure CfgD where
  r : List Int
  s : List (List UInt8)
  a : List UInt8
  u : List UInt8
  t : UInt64
/-- Where it lies. -/
structure CfgA where
  ra : Option Addr
  rn : Nat
  rc : Nat
  sa : Option Addr
  sn : Nat
  sc : Nat
  aa : Option Addr
  an : Nat
  ac : Nat
  ua : Option Addr
  un : Nat
  uc : Nat
def CfgA.cells (x : CfgA) (t : UInt64) : List Value := [.slice x.ra x.rn x.rc, .slice x.sa x.sn x.sc, .slice x.aa x.an x.ac, .slice x.ua x.un x.uc, .int .u64 t.toNat]
structure IsCfg (w : World) (B : Nat) (x : CfgA) (c : CfgD) : Prop where
  r : IsI w x.ra x.rn x.rc c.r
  s : IsBB w B x.sa x.sn x.sc c.s
  a : IsB w x.aa x.an x.ac c.a
  u : IsB w x.ua x.un x.uc c.u
theorem IsCfg.below {w w' : World} {B : Nat} {x : CfgA} {c : CfgD} (h : IsCfg w B x c) (hb : Below w.heap.size w w') : IsCfg w' B x c := ⟨h.r.below hb, h.s.below hb, h.a.below hb, h.u.below hb⟩
/-- Its sizes. -/
structure CfgSm (c : CfgD) (K : Nat) : Prop where
  r : c.r.length ≤ K
  s : c.s.length ≤ K
  e : ∀ l ∈ c.s, l.length ≤ K
  a : c.a.length ≤ K
  u : c.u.length ≤ K
/-- A twin of a config: where its parts lie. -/
structure TwC where
  r : Nat
  g : Nat
  gs : List Nat
  gz : Nat
  a : Nat
  u : Nat
def TwC.adr (x : TwC) (c : CfgD) : CfgA := ⟨some ⟨x.r, 0, none⟩, c.r.length, c.r.length + 1, some ⟨x.g, 0, none⟩, c.s.length, c.s.length + 1, some ⟨x.a, 0, none⟩, c.a.length, c.a.length + 1, some ⟨x.u, 0, none⟩, c.u.length, c.u.length + 1⟩
structure TwCfg (w : World) (B : Nat) (x : TwC) (c : CfgD) : Prop where
  r : TwI w x.r c.r
  s : TwL w B x.g x.gs x.gz c.s
  a : TwB w x.a c.a
  u : TwB w x.u c.u
  rB : B ≤ x.r
  aB : B ≤ x.a
  uB : B ≤ x.u
  sa : ∀ i (hi : i < x.gs.length), x.gs[i] < x.a
  au : x.a < x.u
theorem TwCfg.below {w w' : World} {B : Nat} {x : TwC} {c : CfgD} (h : TwCfg w B x c) (hb : Below w.heap.size w w') : TwCfg w' B x c :=
  ⟨below_heap hb h.r (lt_of_heap h.r), h.s.below hb, below_heap hb h.a (lt_of_heap h.a), below_heap hb h.u (lt_of_heap h.u), h.rB, h.aB, h.uB, h.sa, h.au⟩
theorem infoCfg : (Tryz.prog.info? 27).map (·.size) = some 5 := by kernel_rfl
theorem cfg_one (x : CfgA) (t : UInt64) : ∀ v ∈ x.cells t, v.oneCell' = true := by
  intro v hv
  simp [CfgA.cells] at hv
  rcases hv with rfl | rfl | rfl | rfl | rfl <;> rfl

theorem arr5 (C : Array Value) (v0 v1 v2 v3 v4 : Value) (h : C.size = 5) : ((((C.setIfInBounds 0 v0).setIfInBounds 1 v1).setIfInBounds 2 v2).setIfInBounds 3 v3).setIfInBounds 4 v4 = #[v0, v1, v2, v3, v4] := by
  obtain ⟨l⟩ := C
  match l, h with
  | [_, _, _, _, _], _ => rfl
theorem set1 (w : World) (b i : Nat) (C : Array Value) (t : TypeId) (v : Value) (h : w.heap[b]? = some (.cells C t (0, 0))) : Touch (fun k => k = b) w (w.setCell ⟨b, i, none⟩ v) ∧ (w.setCell ⟨b, i, none⟩ v).heap[b]? = some (.cells (C.setIfInBounds i v) t (0, 0)) :=
  ⟨(Touch.refl _ w).setCell ⟨b, i, none⟩ v (.inl rfl), heap_setCell_same _ _ _ _ _ _ h⟩
theorem set5 (w : World) (b : Nat) (C : Array Value) (t : TypeId) (v0 v1 v2 v3 v4 : Value) (h : w.heap[b]? = some (.cells C t (0, 0))) (hC : C.size = 5) :
    Touch (fun k => k = b) w (((((w.setCell ⟨b, 0, none⟩ v0).setCell ⟨b, 1, none⟩ v1).setCell ⟨b, 2, none⟩ v2).setCell ⟨b, 3, none⟩ v3).setCell ⟨b, 4, none⟩ v4) ∧
    (((((w.setCell ⟨b, 0, none⟩ v0).setCell ⟨b, 1, none⟩ v1).setCell ⟨b, 2, none⟩ v2).setCell ⟨b, 3, none⟩ v3).setCell ⟨b, 4, none⟩ v4).heap[b]? = some (.cells #[v0, v1, v2, v3, v4] t (0, 0)) := by
  obtain ⟨s0, h0⟩ := set1 w b 0 C t v0 h
  generalize w.setCell ⟨b, 0, none⟩ v0 = w0 at s0 h0 ⊢
  obtain ⟨s1, h1⟩ := set1 w0 b 1 _ t v1 h0
  generalize w0.setCell ⟨b, 1, none⟩ v1 = w1 at s1 h1 ⊢
  obtain ⟨s2, h2⟩ := set1 w1 b 2 _ t v2 h1
  generalize w1.setCell ⟨b, 2, none⟩ v2 = w2 at s2 h2 ⊢
  obtain ⟨s3, h3⟩ := set1 w2 b 3 _ t v3 h2
  generalize w2.setCell ⟨b, 3, none⟩ v3 = w3 at s3 h3 ⊢
  obtain ⟨s4, h4⟩ := set1 w3 b 4 _ t v4 h3
  generalize w3.setCell ⟨b, 4, none⟩ v4 = w4 at s4 h4 ⊢
  rw [arr5 C v0 v1 v2 v3 v4 hC] at h4
  exact ⟨(((s0.trans s1).trans s2).trans s3).trans s4, h4⟩

set_option maxHeartbeats 8000000 in
theorem twinCfg_any (x : CfgA) (c : CfgD) (B : Nat) (w : World) (h : IsCfg w B x c) (hs : CfgSm c 1048576) :
    Calls Tryz.prog 5 #[.agg (x.cells c.t).toArray] w fun e w' => ∃ y, e = .returned (.agg ((TwC.adr y c).cells c.t).toArray) ∧ Below w.heap.size w w' ∧ TwCfg w' w.heap.size y c := by
  obtain ⟨hs1, hs2, hs3, hs4, hs5⟩ := hs
  obtain ⟨C0, hC0⟩ : ∃ C0 : Array Value, C0 = #[.slice x.ra x.rn x.rc, .slice x.sa x.sn x.sc, .slice x.aa x.an x.ac, .slice x.ua x.un x.uc, .int .u64 c.t.toNat] := ⟨_, rfl⟩
  have HB0 : Below w.heap.size w ((w.alloc (.cells #[.slice x.ra x.rn x.rc, .slice x.sa x.sn x.sc, .slice x.aa x.an x.ac, .slice x.ua x.un x.uc, .int .u64 c.t.toNat] 27)).alloc (.cells #[.slice none 0 0, .slice none 0 0, .slice none 0 0, .slice none 0 0, .int .u64 0] 27)) := ((Below.refl _ _).alloc (Nat.le_refl _) _).alloc (by simp) _
  unfold CfgA.cells
  go_enter Tryz.func5, Tryz.ntmps5
  go_wp2_with fail
  have hbx : ((w.alloc (.cells #[.slice x.ra x.rn x.rc, .slice x.sa x.sn x.sc, .slice x.aa x.an x.ac, .slice x.ua x.un x.uc, .int .u64 c.t.toNat] 27)).alloc (.cells #[.slice none 0 0, .slice none 0 0, .slice none 0 0, .slice none 0 0, .int .u64 0] 27)).heap[w.heap.size]? = some (.cells #[.slice x.ra x.rn x.rc, .slice x.sa x.sn x.sc, .slice x.aa x.an x.ac, .slice x.ua x.un x.uc, .int .u64 c.t.toNat] 27 (0, 0)) := below_heap ((Below.refl _ _).alloc (Nat.le_refl _) _) (heap_new _ _) (lt_of_heap (heap_new _ _))
  have hrs : ((w.alloc (.cells #[.slice x.ra x.rn x.rc, .slice x.sa x.sn x.sc, .slice x.aa x.an x.ac, .slice x.ua x.un x.uc, .int .u64 c.t.toNat] 27)).alloc (.cells #[.slice none 0 0, .slice none 0 0, .slice none 0 0, .slice none 0 0, .int .u64 0] 27)).heap[w.heap.size + 1]? = some (.cells #[.slice none 0 0, .slice none 0 0, .slice none 0 0, .slice none 0 0, .int .u64 0] 27 (0, 0)) := by
    have := heap_new (w.alloc (.cells #[.slice x.ra x.rn x.rc, .slice x.sa x.sn x.sc, .slice x.aa x.an x.ac, .slice x.ua x.un x.uc, .int .u64 c.t.toNat] 27)) (.cells #[.slice none 0 0, .slice none 0 0, .slice none 0 0, .slice none 0 0, .int .u64 0] 27 (0, 0))
    rwa [show (w.alloc (.cells #[.slice x.ra x.rn x.rc, .slice x.sa x.sn x.sc, .slice x.aa x.an x.ac, .slice x.ua x.un x.uc, .int .u64 c.t.toNat] 27)).heap.size = w.heap.size + 1 by simp] at this
  have HIw0 := Lib.hid (h.below HB0)
  have HBw0 := Lib.hid HB0
  have BXw0 := Lib.hid hbx
  have RSw0 := Lib.hid hrs
  clear h HB0 hC0 C0
  generalize (w.alloc (.cells #[.slice x.ra x.rn x.rc, .slice x.sa x.sn x.sc, .slice x.aa x.an x.ac, .slice x.ua x.un x.uc, .int .u64 c.t.toNat] 27)).alloc (.cells #[.slice none 0 0, .slice none 0 0, .slice none 0 0, .slice none 0 0, .int .u64 0] 27) = w0 at hbx hrs HIw0 HBw0 BXw0 RSw0 ⊢
  have CF : Hid (∀ (W : World), W.heap[w.heap.size]? = some (.cells #[.slice x.ra x.rn x.rc, .slice x.sa x.sn x.sc, .slice x.aa x.an x.ac, .slice x.ua x.un x.uc, .int .u64 c.t.toNat] 27 (0, 0)) → W.cell? ⟨w.heap.size, 0, none⟩ = some (.slice x.ra x.rn x.rc) ∧ W.cell? ⟨w.heap.size, 1, none⟩ = some (.slice x.sa x.sn x.sc) ∧ W.cell? ⟨w.heap.size, 2, none⟩ = some (.slice x.aa x.an x.ac) ∧ W.cell? ⟨w.heap.size, 3, none⟩ = some (.slice x.ua x.un x.uc) ∧ W.cell? ⟨w.heap.size, 4, none⟩ = some (.int .u64 c.t.toNat)) := Lib.hid (fun W h => by
    refine ⟨?_, ?_, ?_, ?_, ?_⟩ <;> (rw [cell_of_block h]; rfl))
  obtain ⟨p0, p1, p2, p3, p4⟩ := CF.out w0 hbx
  obtain ⟨d0, d1, d2, d3, d4⟩ := CF.out w0.drew hbx
  obtain ⟨bx, hbxe⟩ : ∃ bx, bx = w.heap.size := ⟨_, rfl⟩
  have HBX := Lib.hid hbxe
  have hd0 : Hid (Below w0.heap.size w0 w0.drew) := Lib.hid (Below.refl _ _).drew
  have HSE := Lib.hid hs3
  clear hbx hrs hbxe hs3
  go_region_held3 (fun W => W.cell? ⟨w.heap.size, 0, none⟩ = some (.slice x.ra x.rn x.rc) ∧ W.cell? ⟨w.heap.size, 1, none⟩ = some (.slice x.sa x.sn x.sc) ∧ W.cell? ⟨w.heap.size, 2, none⟩ = some (.slice x.aa x.an x.ac) ∧ W.cell? ⟨w.heap.size, 3, none⟩ = some (.slice x.ua x.un x.uc) ∧ W.cell? ⟨w.heap.size, 4, none⟩ = some (.int .u64 c.t.toNat)) (first | with_reducible exact ⟨d0, d1, d2, d3, d4⟩ | with_reducible exact CFw1 | with_reducible exact CFw2 | with_reducible exact CFw3 | with_reducible exact CFw4 | with_reducible exact CFw5) (first
        | (go_at_call 25; (with_reducible refine (twinI_ex x.ra x.rn x.rc c.r w0.drew (by omega) (HIw0.out.below hd0.out).r).mono ?_); rintro e w1 ⟨gr, rfl, hbw1, hTr, hgr⟩
           have hboxw1 := below_heap ((Below.refl w0.heap.size w0).drew.trans hbw1) BXw0.out (lt_of_heap BXw0.out)
           have BXw1 := Lib.hid hboxw1
           have RSw1 := Lib.hid (below_heap ((Below.refl w0.heap.size w0).drew.trans hbw1) RSw0.out (lt_of_heap RSw0.out))
           have HIw1 := Lib.hid (HIw0.out.below ((Below.refl w0.heap.size w0).drew.trans hbw1))
           have HBw1 := Lib.hid (HBw0.out.trans (((Below.refl w0.heap.size w0).drew.trans hbw1).mono HBw0.out.size))
           have HBsw1 := Lib.hid hbw1
           have CFw1 := CF.out w1 hboxw1
           clear hboxw1 hbw1)
        | (go_at_call 26; (with_reducible refine (twinL_any x.sa x.sn x.sc c.s w1 B (by omega) (fun l hl => Nat.le_trans (HSE.out l hl) (by decide)) HIw1.out.s).mono ?_); rintro e w2 ⟨gl, gs, gz, rfl, hbw2, hTs⟩
           have hboxw2 := below_heap hbw2 BXw1.out (lt_of_heap BXw1.out)
           have BXw2 := Lib.hid hboxw2
           have RSw2 := Lib.hid (below_heap hbw2 RSw1.out (lt_of_heap RSw1.out))
           have HIw2 := Lib.hid (HIw1.out.below hbw2)
           have HBw2 := Lib.hid (HBw1.out.trans (hbw2.mono HBw1.out.size))
           have HBsw2 := Lib.hid hbw2
           have CFw2 := CF.out w2 hboxw2
           clear hboxw2 hbw2)
        | (go_at_call 10; (with_reducible refine (twinB_ex x.aa x.an x.ac c.a w2 (by omega) HIw2.out.a).mono ?_); rintro e w3 ⟨ga, rfl, hbw3, hTa, hga⟩
           have hboxw3 := below_heap hbw3 BXw2.out (lt_of_heap BXw2.out)
           have BXw3 := Lib.hid hboxw3
           have RSw3 := Lib.hid (below_heap hbw3 RSw2.out (lt_of_heap RSw2.out))
           have HIw3 := Lib.hid (HIw2.out.below hbw3)
           have HBw3 := Lib.hid (HBw2.out.trans (hbw3.mono HBw2.out.size))
           have HBsw3 := Lib.hid hbw3
           have CFw3 := CF.out w3 hboxw3
           clear hboxw3 hbw3)
        | (go_at_call 10; (with_reducible refine (twinB_ex x.ua x.un x.uc c.u w3 (by omega) HIw3.out.u).mono ?_); rintro e w4 ⟨gu, rfl, hbw4, hTu, hgu⟩
           have hboxw4 := below_heap hbw4 BXw3.out (lt_of_heap BXw3.out)
           have BXw4 := Lib.hid hboxw4
           have RSw4 := Lib.hid (below_heap hbw4 RSw3.out (lt_of_heap RSw3.out))
           have HIw4 := Lib.hid (HIw3.out.below hbw4)
           have HBw4 := Lib.hid (HBw3.out.trans (hbw4.mono HBw3.out.size))
           have HBsw4 := Lib.hid hbw4
           have CFw4 := CF.out w4 hboxw4
           have hr4 := RSw4.out
           have r0 : w4.cell? ⟨w.heap.size + 1, 0, none⟩ = some (.slice none 0 0) := by rw [cell_of_block hr4]; rfl
           have r1 : w4.cell? ⟨w.heap.size + 1, 1, none⟩ = some (.slice none 0 0) := by rw [cell_of_block hr4]; rfl
           have r2 : w4.cell? ⟨w.heap.size + 1, 2, none⟩ = some (.slice none 0 0) := by rw [cell_of_block hr4]; rfl
           have r3 : w4.cell? ⟨w.heap.size + 1, 3, none⟩ = some (.slice none 0 0) := by rw [cell_of_block hr4]; rfl
           have r4 : w4.cell? ⟨w.heap.size + 1, 4, none⟩ = some (.int .u64 0) := by rw [cell_of_block hr4]; rfl
           have f0 : w4.frozen? ⟨w.heap.size + 1, 0, none⟩ = false := blk_frozen hr4
           have f1 : w4.frozen? ⟨w.heap.size + 1, 1, none⟩ = false := blk_frozen hr4
           have f2 : w4.frozen? ⟨w.heap.size + 1, 2, none⟩ = false := blk_frozen hr4
           have f3 : w4.frozen? ⟨w.heap.size + 1, 3, none⟩ = false := blk_frozen hr4
           have f4 : w4.frozen? ⟨w.heap.size + 1, 4, none⟩ = false := blk_frozen hr4
           have t5 := set5 w4 (w.heap.size + 1) _ _ (.slice (some ⟨gr, 0, none⟩) c.r.length (c.r.length + 1)) (.slice (some ⟨gl, 0, none⟩) c.s.length (c.s.length + 1)) (.slice (some ⟨ga, 0, none⟩) c.a.length (c.a.length + 1)) (.slice (some ⟨gu, 0, none⟩) c.u.length (c.u.length + 1)) (.int .u64 c.t.toNat) RSw4.out rfl
           have CFw5 := CF.out _ (t5.1.heap BXw4.out (by omega))
           have T5 := Lib.hid t5
           clear t5 hr4 hboxw4 hbw4)
        | fail)
  have hfin : ∀ (W : World), Touch (fun k => k = w.heap.size + 1) w4 W → Below w.heap.size w W ∧ TwCfg W w.heap.size ⟨gr, gl, gs, gz, ga, gu⟩ c := fun W t => by
    have hB : Below w.heap.size w W := HBw4.out.trans (t.below HBw4.out.size (fun k hk e => by omega))
    have hne : ∀ {g : Nat} {C : Array Value} {ty : TypeId}, ty ≠ 27 → w4.heap[g]? = some (.cells C ty (0, 0)) → W.heap[g]? = some (.cells C ty (0, 0)) := fun {g C ty} hty h => t.heap h (fun e => by
      rw [e, RSw4.out] at h
      exact hty (Obj.cells.inj (Option.some.inj h)).2.1.symm)
    have hb12 : Below w1.heap.size w1 w4 := (HBsw2.out.trans (HBsw3.out.mono HBsw2.out.size)).trans (HBsw4.out.mono (Nat.le_trans HBsw2.out.size HBsw3.out.size))
    have hb24 : Below w2.heap.size w2 w4 := HBsw3.out.trans (HBsw4.out.mono HBsw3.out.size)
    have h1s := HBw1.out.size
    have h2s := HBw2.out.size
    have h3s := HBw3.out.size
    have h0s := HBw0.out.size
    have htr : TwI w4 gr c.r := below_heap hb12 hTr (lt_of_heap hTr)
    have hta : TwB w4 ga c.a := below_heap HBsw4.out hTa (lt_of_heap hTa)
    have hts : TwL w4 w1.heap.size gl gs gz c.s := hTs.below hb24
    have hts2 : TwL W w1.heap.size gl gs gz c.s := hts.touch t (fun k hk cur ty fz hc => by
      rw [hk, RSw4.out] at hc
      rw [← (Obj.cells.inj (Option.some.inj hc)).2.1]
      exact ⟨by decide, by decide⟩)
    refine ⟨hB, hne (by decide) htr, ⟨hts2.row, hts2.len, fun i h1 h2 => ⟨(hts2.each i h1 h2).1, Nat.le_trans h1s (hts2.each i h1 h2).2⟩, hts2.nodup, hts2.z, Nat.le_trans h1s hts2.le⟩, hne (by decide) hta, hne (by decide) hTu, ?_, ?_, ?_, fun i hi => ?_, ?_⟩
    · exact Nat.le_trans h0s hgr
    · exact Nat.le_trans h2s hga
    · exact Nat.le_trans h3s hgu
    · have hh : TwB w2 gs[i] (c.s[i]'(by rw [← hTs.len]; exact hi)) := (hTs.each i hi (by rw [← hTs.len]; exact hi)).1
      have h2 := lt_of_heap hh
      show gs[i] < ga
      omega
    · have h3 := lt_of_heap hTa
      show ga < gu
      omega
  have HFIN := Lib.hid (hfin _ T5.out.1)
  have HG5 := Lib.hid T5.out.2
  clear hfin T5
  go_wp2_with fail
  refine bodyPost_ret (results_cell rfl _ _ (w.heap.size + 1) 0 rfl [.slice (some ⟨gr, 0, none⟩) c.r.length (c.r.length + 1), .slice (some ⟨gl, 0, none⟩) c.s.length (c.s.length + 1), .slice (some ⟨ga, 0, none⟩) c.a.length (c.a.length + 1), .slice (some ⟨gu, 0, none⟩) c.u.length (c.u.length + 1), .int .u64 c.t.toNat] _ (rangeAt_row HG5.out) Tryz.underlying27 rfl infoCfg) rfl ?_
  exact ⟨⟨gr, gl, gs, gz, ga, gu⟩, rfl, HFIN.out.1, HFIN.out.2⟩

set_option maxHeartbeats 4000000 in
theorem leftCfg_any (x : CfgA) (y : TwC) (c : CfgD) (B B0 : Nat) (w : World) (h : IsCfg w B0 x c) (ht : TwCfg w B y c) (hs : CfgSm c 1048576) :
    Calls Tryz.prog 8 #[.agg ((y.adr c).cells c.t).toArray, .agg (x.cells c.t).toArray] w fun e w' => e = .returned (.bool true) ∧ Below w.heap.size w w' := by
  obtain ⟨hs1, hs2, hs3, hs4, hs5⟩ := hs
  have er := h.r.1
  have es := h.s.1
  have ea := h.a.1
  have eu := h.u.1
  have HSE := Lib.hid hs3
  have CT : Hid (∀ (W : World), W.heap[w.heap.size]? = some (.cells #[.slice (some ⟨y.r, 0, none⟩) c.r.length (c.r.length + 1), .slice (some ⟨y.g, 0, none⟩) c.s.length (c.s.length + 1), .slice (some ⟨y.a, 0, none⟩) c.a.length (c.a.length + 1), .slice (some ⟨y.u, 0, none⟩) c.u.length (c.u.length + 1), .int .u64 c.t.toNat] 27 (0, 0)) → W.cell? ⟨w.heap.size, 0, none⟩ = some (.slice (some ⟨y.r, 0, none⟩) c.r.length (c.r.length + 1)) ∧ W.cell? ⟨w.heap.size, 1, none⟩ = some (.slice (some ⟨y.g, 0, none⟩) c.s.length (c.s.length + 1)) ∧ W.cell? ⟨w.heap.size, 2, none⟩ = some (.slice (some ⟨y.a, 0, none⟩) c.a.length (c.a.length + 1)) ∧ W.cell? ⟨w.heap.size, 3, none⟩ = some (.slice (some ⟨y.u, 0, none⟩) c.u.length (c.u.length + 1)) ∧ W.cell? ⟨w.heap.size, 4, none⟩ = some (.int .u64 c.t.toNat)) := Lib.hid (fun W h => by
    refine ⟨?_, ?_, ?_, ?_, ?_⟩ <;> (rw [cell_of_block h]; rfl))
  have CX : Hid (∀ (W : World), W.heap[w.heap.size + 1]? = some (.cells #[.slice x.ra x.rn x.rc, .slice x.sa x.sn x.sc, .slice x.aa x.an x.ac, .slice x.ua x.un x.uc, .int .u64 c.t.toNat] 27 (0, 0)) → W.cell? ⟨w.heap.size + 1, 0, none⟩ = some (.slice x.ra x.rn x.rc) ∧ W.cell? ⟨w.heap.size + 1, 1, none⟩ = some (.slice x.sa x.sn x.sc) ∧ W.cell? ⟨w.heap.size + 1, 2, none⟩ = some (.slice x.aa x.an x.ac) ∧ W.cell? ⟨w.heap.size + 1, 3, none⟩ = some (.slice x.ua x.un x.uc) ∧ W.cell? ⟨w.heap.size + 1, 4, none⟩ = some (.int .u64 c.t.toNat)) := Lib.hid (fun W h => by
    refine ⟨?_, ?_, ?_, ?_, ?_⟩ <;> (rw [cell_of_block h]; rfl))
  have hB0 : Below w.heap.size w ((w.alloc (.cells #[.slice (some ⟨y.r, 0, none⟩) c.r.length (c.r.length + 1), .slice (some ⟨y.g, 0, none⟩) c.s.length (c.s.length + 1), .slice (some ⟨y.a, 0, none⟩) c.a.length (c.a.length + 1), .slice (some ⟨y.u, 0, none⟩) c.u.length (c.u.length + 1), .int .u64 c.t.toNat] 27)).alloc (.cells #[.slice x.ra x.rn x.rc, .slice x.sa x.sn x.sc, .slice x.aa x.an x.ac, .slice x.ua x.un x.uc, .int .u64 c.t.toNat] 27)) := ((Below.refl _ _).alloc (Nat.le_refl _) _).alloc (by simp) _
  have hbt : ((w.alloc (.cells #[.slice (some ⟨y.r, 0, none⟩) c.r.length (c.r.length + 1), .slice (some ⟨y.g, 0, none⟩) c.s.length (c.s.length + 1), .slice (some ⟨y.a, 0, none⟩) c.a.length (c.a.length + 1), .slice (some ⟨y.u, 0, none⟩) c.u.length (c.u.length + 1), .int .u64 c.t.toNat] 27)).alloc (.cells #[.slice x.ra x.rn x.rc, .slice x.sa x.sn x.sc, .slice x.aa x.an x.ac, .slice x.ua x.un x.uc, .int .u64 c.t.toNat] 27)).heap[w.heap.size]? = some (.cells #[.slice (some ⟨y.r, 0, none⟩) c.r.length (c.r.length + 1), .slice (some ⟨y.g, 0, none⟩) c.s.length (c.s.length + 1), .slice (some ⟨y.a, 0, none⟩) c.a.length (c.a.length + 1), .slice (some ⟨y.u, 0, none⟩) c.u.length (c.u.length + 1), .int .u64 c.t.toNat] 27 (0, 0)) := below_heap ((Below.refl _ _).alloc (Nat.le_refl _) _) (heap_new _ _) (lt_of_heap (heap_new _ _))
  have hbx : ((w.alloc (.cells #[.slice (some ⟨y.r, 0, none⟩) c.r.length (c.r.length + 1), .slice (some ⟨y.g, 0, none⟩) c.s.length (c.s.length + 1), .slice (some ⟨y.a, 0, none⟩) c.a.length (c.a.length + 1), .slice (some ⟨y.u, 0, none⟩) c.u.length (c.u.length + 1), .int .u64 c.t.toNat] 27)).alloc (.cells #[.slice x.ra x.rn x.rc, .slice x.sa x.sn x.sc, .slice x.aa x.an x.ac, .slice x.ua x.un x.uc, .int .u64 c.t.toNat] 27)).heap[w.heap.size + 1]? = some (.cells #[.slice x.ra x.rn x.rc, .slice x.sa x.sn x.sc, .slice x.aa x.an x.ac, .slice x.ua x.un x.uc, .int .u64 c.t.toNat] 27 (0, 0)) := by
    have := heap_new (w.alloc (.cells #[.slice (some ⟨y.r, 0, none⟩) c.r.length (c.r.length + 1), .slice (some ⟨y.g, 0, none⟩) c.s.length (c.s.length + 1), .slice (some ⟨y.a, 0, none⟩) c.a.length (c.a.length + 1), .slice (some ⟨y.u, 0, none⟩) c.u.length (c.u.length + 1), .int .u64 c.t.toNat] 27)) (.cells #[.slice x.ra x.rn x.rc, .slice x.sa x.sn x.sc, .slice x.aa x.an x.ac, .slice x.ua x.un x.uc, .int .u64 c.t.toNat] 27 (0, 0))
    rwa [show (w.alloc (.cells #[.slice (some ⟨y.r, 0, none⟩) c.r.length (c.r.length + 1), .slice (some ⟨y.g, 0, none⟩) c.s.length (c.s.length + 1), .slice (some ⟨y.a, 0, none⟩) c.a.length (c.a.length + 1), .slice (some ⟨y.u, 0, none⟩) c.u.length (c.u.length + 1), .int .u64 c.t.toNat] 27)).heap.size = w.heap.size + 1 by simp] at this
  have BT0 := Lib.hid hbt
  have BX0 := Lib.hid hbx
  have HI0 := Lib.hid (h.below hB0)
  have HT0 := Lib.hid (ht.below hB0)
  have HB0 := Lib.hid hB0
  clear h ht hB0 hbt hbx hs3
  unfold TwC.adr CfgA.cells
  dsimp only
  rw [er, es, ea, eu] at BX0 CX HB0 HI0 HT0 BT0 ⊢
  go_enter Tryz.func8, Tryz.ntmps8
  go_wp2_with fail
  generalize (w.alloc (.cells #[.slice (some ⟨y.r, 0, none⟩) c.r.length (c.r.length + 1), .slice (some ⟨y.g, 0, none⟩) c.s.length (c.s.length + 1), .slice (some ⟨y.a, 0, none⟩) c.a.length (c.a.length + 1), .slice (some ⟨y.u, 0, none⟩) c.u.length (c.u.length + 1), .int .u64 c.t.toNat] 27)).alloc (.cells #[.slice x.ra c.r.length x.rc, .slice x.sa c.s.length x.sc, .slice x.aa c.a.length x.ac, .slice x.ua c.u.length x.uc, .int .u64 c.t.toNat] 27) = w0 at BT0 BX0 HI0 HT0 HB0 ⊢
  refine (leftI_any y.r x.ra c.r.length x.rc c.r w0 (by omega) (by have := HI0.out.r; rwa [er] at this) HT0.out.r.twin).mono ?_; rintro e w1 ⟨rfl, hb⟩
  have BT1 := Lib.hid (below_heap hb BT0.out (lt_of_heap BT0.out))
  have BX1 := Lib.hid (below_heap hb BX0.out (lt_of_heap BX0.out))
  have HI1 := Lib.hid (HI0.out.below hb)
  have HT1 := Lib.hid (HT0.out.below hb)
  have HB1 := Lib.hid (HB0.out.trans (hb.mono HB0.out.size))
  clear hb BT0 BX0 HI0 HT0 HB0
  obtain ⟨t0, t1, t2, t3, t4⟩ := CT.out w1 BT1.out
  obtain ⟨x0, x1, x2, x3, x4⟩ := CX.out w1 BX1.out
  go_wp2_with fail
  refine (leftL_any y.g y.gs y.gz B B0 x.sa c.s.length x.sc c.s w1 (by omega) (fun l hl => Nat.le_trans (HSE.out l hl) (by decide)) (by have := HI1.out.s; rwa [es] at this) HT1.out.s).mono ?_; rintro e w2 ⟨rfl, hb⟩
  have BT2 := Lib.hid (below_heap hb BT1.out (lt_of_heap BT1.out))
  have BX2 := Lib.hid (below_heap hb BX1.out (lt_of_heap BX1.out))
  have HI2 := Lib.hid (HI1.out.below hb)
  have HT2 := Lib.hid (HT1.out.below hb)
  have HB2 := Lib.hid (HB1.out.trans (hb.mono HB1.out.size))
  clear hb t0 t1 t2 t3 t4 x0 x1 x2 x3 x4 BT1 BX1 HI1 HT1 HB1
  obtain ⟨t0, t1, t2, t3, t4⟩ := CT.out w2 BT2.out
  obtain ⟨x0, x1, x2, x3, x4⟩ := CX.out w2 BX2.out
  go_wp2_with fail
  refine (left_any y.a x.aa c.a.length x.ac c.a w2 (by omega) (by have := HI2.out.a; rwa [ea] at this) HT2.out.a.twin).mono ?_; rintro e w3 ⟨rfl, hb⟩
  have BT3 := Lib.hid (below_heap hb BT2.out (lt_of_heap BT2.out))
  have BX3 := Lib.hid (below_heap hb BX2.out (lt_of_heap BX2.out))
  have HI3 := Lib.hid (HI2.out.below hb)
  have HT3 := Lib.hid (HT2.out.below hb)
  have HB3 := Lib.hid (HB2.out.trans (hb.mono HB2.out.size))
  clear hb t0 t1 t2 t3 t4 x0 x1 x2 x3 x4 BT2 BX2 HI2 HT2 HB2
  obtain ⟨t0, t1, t2, t3, t4⟩ := CT.out w3 BT3.out
  obtain ⟨x0, x1, x2, x3, x4⟩ := CX.out w3 BX3.out
  go_wp2_with fail
  refine (left_any y.u x.ua c.u.length x.uc c.u w3 (by omega) (by have := HI3.out.u; rwa [eu] at this) HT3.out.u.twin).mono ?_; rintro e w4 ⟨rfl, hb⟩
  have BT4 := Lib.hid (below_heap hb BT3.out (lt_of_heap BT3.out))
  have BX4 := Lib.hid (below_heap hb BX3.out (lt_of_heap BX3.out))
  have HI4 := Lib.hid (HI3.out.below hb)
  have HT4 := Lib.hid (HT3.out.below hb)
  have HB4 := Lib.hid (HB3.out.trans (hb.mono HB3.out.size))
  clear hb t0 t1 t2 t3 t4 x0 x1 x2 x3 x4 BT3 BX3 HI3 HT3 HB3
  obtain ⟨t0, t1, t2, t3, t4⟩ := CT.out w4 BT4.out
  obtain ⟨x0, x1, x2, x3, x4⟩ := CX.out w4 BX4.out
  have hq : ((c.t.toNat : Int) == (c.t.toNat : Int)) = true := by simp
  go_wp2_with fail
  go_ret
  exact ⟨rfl, HB4.out⟩

end Go.Proofs.YthadgnaaipdpaaaGreatDoor
