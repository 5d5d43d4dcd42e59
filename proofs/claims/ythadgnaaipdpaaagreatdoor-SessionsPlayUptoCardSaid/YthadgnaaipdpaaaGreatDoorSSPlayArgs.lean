/- Opening the arguments of a play on sessions; no condition. -/
import Derived.Test.YthadgnaaipdpaaaGreatDoorFieldArgs
import Derived.Test.YthadgnaaipdpaaaGreatDoorSSPlayS
import Derived.Deep.Slices
import Derived.OpenShut
namespace Go.Proofs.YthadgnaaipdpaaaGreatDoor
open Go.ChangeShapes Go.WideShapes Go.ChangeAt Go.RowKit Go.Deep
set_option linter.unusedVariables false
set_option maxRecDepth 100000

theorem len5 {α : Type} (l : List α) (h : l.length = 5) : ∃ a b c d e, l = [a, b, c, d, e] := by
  match l, h with
  | [a, b, c, d, e], _ => exact ⟨a, b, c, d, e, rfl⟩
theorem len8 {α : Type} (l : List α) (h : l.length = 8) : ∃ a b c d e f g i, l = [a, b, c, d, e, f, g, i] := by
  match l, h with
  | [a, b, c, d, e, f, g, i], _ => exact ⟨a, b, c, d, e, f, g, i, rfl⟩
theorem piece {α : Type} (cs : List α) (k n : Nat) : cs.drop k = (cs.drop k).take n ++ cs.drop (k + n) := by
  rw [← List.drop_drop, List.take_append_drop]

section
variable {H : Type} {enc : TypeId × Value → H} {W : World} {base b0 : Nat} {held : Bool} {r : Reach}
theorem g_u8 {n : Nat} {t : TypeId} {cs : List Value} {y : DataW H × List MemPlace} (ht : Tryz.prog.underlying t = some (.int .u8)) (h : DataW.trod enc Tryz.prog W base (fun _ => true) held n t cs = some y) : ∃ x : UInt8, cs = [.int .u8 x.toNat] := by
  obtain ⟨z, hz, _, hw⟩ := DataW.trod_int ht h
  obtain ⟨x, rfl, hx⟩ := u8_nat hw
  exact ⟨UInt8.ofNat x, by rw [show (UInt8.ofNat x).toNat = x by simp; omega]; exact hz⟩
theorem g_u32 {n : Nat} {t : TypeId} {cs : List Value} {y : DataW H × List MemPlace} (ht : Tryz.prog.underlying t = some (.int .u32)) (h : DataW.trod enc Tryz.prog W base (fun _ => true) held n t cs = some y) : ∃ x : UInt32, cs = [.int .u32 x.toNat] := by
  obtain ⟨z, hz, _, hw⟩ := DataW.trod_int ht h
  obtain ⟨x, rfl, hx⟩ := u32_nat hw
  exact ⟨UInt32.ofNat x, by rw [show (UInt32.ofNat x).toNat = x by simp; omega]; exact hz⟩
theorem g_u64 {n : Nat} {t : TypeId} {cs : List Value} {y : DataW H × List MemPlace} (ht : Tryz.prog.underlying t = some (.int .u64)) (h : DataW.trod enc Tryz.prog W base (fun _ => true) held n t cs = some y) : ∃ x : UInt64, cs = [.int .u64 x.toNat] := by
  obtain ⟨z, hz, _, hw⟩ := DataW.trod_int ht h
  obtain ⟨x, rfl, hx⟩ := u64_nat hw
  exact ⟨UInt64.ofNat x, by rw [show (UInt64.ofNat x).toNat = x by simp; omega]; exact hz⟩
theorem g_bytes {n : Nat} {t e : TypeId} {cs : List Value} {y : DataW H × List MemPlace} (ht : Tryz.prog.underlying t = some (.slice e)) (he : Tryz.prog.underlying e = some (.int .u8)) (hc : Tryz.prog.cellsOf e = 1)
    (h : DataW.trod enc Tryz.prog W base (fun _ => true) held n t cs = some y) : ∃ a n c l, cs = [.slice a n c] ∧ IsB W a n c l ∧ l.length ≤ Rows.uptoBulk y.1 := by
  have hs : ∃ u, cs = [u] := by
    rcases open_ints ht he hc h with ⟨hcs, _⟩ | ⟨x, l, c, zs, hcs, _⟩
    · exact ⟨_, hcs⟩
    · exact ⟨_, hcs⟩
  obtain ⟨u, rfl⟩ := hs
  obtain ⟨a, n, c, l, rfl, h1, h2⟩ := field_bytes ht he hc h
  exact ⟨a, n, c, l, rfl, h1, h2⟩
theorem g_ints {n : Nat} {t e : TypeId} {cs : List Value} {y : DataW H × List MemPlace} (ht : Tryz.prog.underlying t = some (.slice e)) (he : Tryz.prog.underlying e = some (.int .i64)) (hc : Tryz.prog.cellsOf e = 1)
    (h : DataW.trod enc Tryz.prog W base (fun _ => true) held n t cs = some y) : ∃ a n c l, cs = [.slice a n c] ∧ IsI W a n c l ∧ l.length ≤ Rows.uptoBulk y.1 := by
  rcases open_ints ht he hc h with ⟨hcs, _⟩ | ⟨x, l, c, zs, hcs, _, hl, hm, hz, hy, hcell, hwz⟩
  · exact ⟨none, 0, 0, [], hcs, IsI.nil W, Nat.zero_le _⟩
  · have hL := isI_of_ints (a := some x) x zs rfl hl hm (by simpa using hz) hcell
    refine ⟨_, _, _, _, hcs, hL, ?_⟩
    rw [hy, ← hL.1]
    have hzc : zs.length = c := by simpa using hz
    refine Nat.le_trans ?_ (bulks.slice_le _ _)
    simp [lits]
    omega
theorem g_bss {n : Nat} {t e e2 : TypeId} {cs : List Value} {y : DataW H × List MemPlace} (ht : Tryz.prog.underlying t = some (.slice e)) (he : Tryz.prog.underlying e = some (.slice e2)) (he2 : Tryz.prog.underlying e2 = some (.int .u8)) (hc : Tryz.prog.cellsOf e = 1) (hc2 : Tryz.prog.cellsOf e2 = 1)
    (h : DataW.trod enc Tryz.prog W base (fun _ => true) held n t cs = some y) (K : Nat) (hK : Rows.uptoBulk y.1 ≤ K) : ∃ a n c L, cs = [.slice a n c] ∧ IsBB W 0 a n c L ∧ L.length ≤ K ∧ ∀ l ∈ L, l.length ≤ K := by
  rcases open_slice1 ht hc h with ⟨hcs, _⟩ | ⟨x, len, cap, m, n', V, D, Pl, hcs, _, hl, hm, hmm, hy, hx⟩
  · exact ⟨none, 0, 0, [], hcs, ⟨rfl, Nat.le_refl _, by decide, .inl rfl⟩, Nat.zero_le _, fun l hl => by cases hl⟩
  · have hy1 : y.1 = .slice ((List.range len).map D) ((List.range (m - len)).map fun j => D (len + j)) := congrArg Prod.fst hy
    rw [hy1] at hK
    have hel := Nat.le_trans (bulks.slice_elems _ _) hK
    have hlen : len ≤ K := by
      have := Nat.le_trans (bulks.slice_le _ _) hK
      simp at this
      omega
    have hDi : ∀ i, i < len → Rows.uptoBulk (D i) ≤ K := fun i hi => by
      have := bulks.part_le (List.mem_map.2 ⟨i, List.mem_range.2 hi, rfl⟩ : D i ∈ (List.range len).map D)
      omega
    have hlm : len ≤ m := by rw [hmm]; simp; exact hl
    by_cases h0 : len = 0
    · subst h0
      exact ⟨_, _, _, [], hcs, ⟨rfl, Nat.zero_le _, hm, .inl rfl⟩, Nat.zero_le _, fun x hx => by cases hx⟩
    obtain ⟨L, hL, hp⟩ := choose_list (α := List UInt8) len (fun i l => l.length ≤ K ∧ ∃ u, W.cell? (x.add i) = some u ∧ ReadAs W 0 u l) (fun i hi => by
      obtain ⟨q1, q2⟩ := hx i (by omega)
      obtain ⟨a, n, c, l, e1, h1, h2⟩ := g_bytes he he2 hc2 q2
      have hd := hDi i hi
      simp at e1
      exact ⟨l, Nat.le_trans h2 hd, V i, q1, a, n, c, e1, h1, fun _ _ _ _ => Nat.zero_le _⟩)
    have h00 := (hp 0 (by omega)).2
    obtain ⟨u0, h00, _⟩ := h00
    rw [show x.add 0 = x by simp [Addr.add]] at h00
    obtain ⟨hsp, hlt⟩ := addr_spot h00
    obtain ⟨b, off, spot⟩ := x
    simp at hsp
    subst hsp
    refine ⟨_, _, _, L, hcs, ⟨hL.symm, by omega, hm, .inr ⟨b, off, rfl, Nat.zero_le _, hlt, fun i hi => ?_⟩⟩, by omega, fun l hl => ?_⟩
    · obtain ⟨u, h1, h2⟩ := (hp i hi).2
      rw [addr_add] at h1
      exact ⟨u, h1, h2⟩
    · obtain ⟨i, hi, rfl⟩ := List.getElem_of_mem hl
      exact (hp i hi).1
theorem g_draw {n m : Nat} {t e : TypeId} {cs : List Value} {y : DataW H × List MemPlace} (ht : Tryz.prog.underlying t = some (.array m e)) (he : Tryz.prog.underlying e = some (.int .u8)) (hce : Tryz.prog.cellsOf e = 1) (hct : Tryz.prog.cellsOf t = m)
    (h : DataW.trod enc Tryz.prog W base (fun _ => true) held n t cs = some y) : ∃ d : List UInt8, d.length = m ∧ cs = bcells d := by
  obtain ⟨xs, q, hq, hx, hcl, hlen, hg⟩ := DataW.trod_array ht h
  rw [hce] at hg
  rw [hct] at hcl
  obtain ⟨d, hd, hp⟩ := choose_list (α := UInt8) m (fun i b => cs[i]? = some (.int .u8 b.toNat)) (fun i hi => by
    have h1 := hg i hi
    have hix : i < xs.length := by omega
    rw [List.getElem?_eq_getElem hix] at h1
    obtain ⟨b, hb⟩ := g_u8 he h1
    have hic : i < cs.length := by omega
    have h2 : (cs.drop (i * 1)).take 1 = [cs[i]] := by rw [Nat.mul_one, List.drop_eq_getElem_cons hic]; rfl
    rw [h2] at hb
    simp at hb
    exact ⟨b, by rw [List.getElem?_eq_getElem hic, hb]⟩)
  refine ⟨d, hd, List.ext_getElem? fun i => ?_⟩
  by_cases hi : i < d.length
  · rw [hp i hi]
    simp [bcells, hi]
  · rw [List.getElem?_eq_none (by omega), List.getElem?_eq_none (by rw [bcells_length]; omega)]

theorem open_cfgK {v : Value} {d : DataW H} {p : List MemPlace} (hv : Value.okWide Tryz.prog W r b0 27 v) (h : DataW.Trod enc Tryz.prog W base (fun _ => true) held 27 v d p) (K : Nat) (hK : Rows.uptoBulk d ≤ K) :
    ∃ (x : CfgA) (cf : CfgD), v = .agg (x.cells cf.t).toArray ∧ IsCfg W 0 x cf ∧ CfgSm cf K := by
  obtain ⟨cs, rfl, hsz⟩ := okWide_struct Tryz.underlying27 hv
  obtain ⟨fuel, hf⟩ := h
  obtain ⟨xs, n, _, hx, hcl, hxl, hg⟩ := DataW.trod_struct Tryz.underlying27 hf
  have hx1 : d = .agg (xs.map (·.1)) := congrArg Prod.fst hx
  have hcl' : cs.toList.length = 5 := hcl.trans (by kernel_rfl)
  have ecs : (Value.agg cs).cells.toList = cs.toList := rfl
  rw [ecs] at hg
  obtain ⟨y0, y1, y2, y3, y4, rfl⟩ := len5 xs hxl
  have k : ∀ t i, Tryz.prog.cellsOf t = 1 → ∀ z : DataW H × List MemPlace, DataW.trod enc Tryz.prog W base (fun _ => true) held n t ((cs.toList.drop i).take (Tryz.prog.cellsOf t)) = some z → DataW.trod enc Tryz.prog W base (fun _ => true) held n t ((cs.toList.drop i).take 1) = some z := fun t i ht z h => by rwa [ht] at h
  rw [hx1] at hK
  simp only [List.map_cons, List.map_nil, Rows.uptoBulk, Rows.uptoBulkAll] at hK
  obtain ⟨ra, rn, rc, rl, e0, h0, b0'⟩ := g_ints Tryz.underlying22 Tryz.underlying3 (by kernel_rfl) (k 22 0 (by kernel_rfl) _ (hg 0 _ rfl))
  obtain ⟨sa, sn, sc, sl, e1, h1, b1, b1'⟩ := g_bss Tryz.underlying23 Tryz.underlying24 Tryz.underlying5 (by kernel_rfl) (by kernel_rfl) (k 23 1 (by kernel_rfl) _ (hg 1 _ rfl)) K (by omega)
  obtain ⟨aa, an, ac, al, e2, h2, b2⟩ := g_bytes Tryz.underlying24 Tryz.underlying5 (by kernel_rfl) (k 24 2 (by kernel_rfl) _ (hg 2 _ rfl))
  obtain ⟨ua, un, uc, ul, e3, h3, b3⟩ := g_bytes Tryz.underlying24 Tryz.underlying5 (by kernel_rfl) (k 24 3 (by kernel_rfl) _ (hg 3 _ rfl))
  obtain ⟨tv, e4⟩ := g_u64 Tryz.underlying25 (k 25 4 (by kernel_rfl) _ (hg 4 _ rfl))
  refine ⟨⟨ra, rn, rc, sa, sn, sc, aa, an, ac, ua, un, uc⟩, ⟨rl, sl, al, ul, tv⟩, ?_, ⟨h0, h1, h2, h3⟩, ⟨by dsimp only; omega, b1, b1', by dsimp only; omega, by dsimp only; omega⟩⟩
  have ec : cs.toList = CfgA.cells ⟨ra, rn, rc, sa, sn, sc, aa, an, ac, ua, un, uc⟩ tv := by
    have e : cs.toList = cs.toList.drop 0 := rfl
    rw [e, piece cs.toList 0 1, e0, piece cs.toList (0 + 1) 1, e1, piece cs.toList (0 + 1 + 1) 1, e2, piece cs.toList (0 + 1 + 1 + 1) 1, e3, piece cs.toList (0 + 1 + 1 + 1 + 1) 1, e4, List.drop_eq_nil_of_le (by omega)]
    rfl
  dsimp only
  rw [← ec]

theorem open_ActT {a : Option Addr} {len cap : Nat} {d : DataW H} {p : List MemPlace} (h : DataW.Trod enc Tryz.prog W base (fun _ => true) held 28 (.slice a len cap) d p) (K : Nat) (hK : Rows.uptoBulk d ≤ K) :
    ∃ L, IsActT W a len cap L ∧ L.length ≤ K ∧ ∀ x ∈ L, x.sec.length ≤ K ∧ x.rep.length ≤ K := by
  obtain ⟨fuel, hf⟩ := h
  have ce : Tryz.prog.cellsOf 33 = 23 := by kernel_rfl
  rcases open_slice Tryz.underlying28 hf with ⟨hcs, _⟩ | ⟨x, l, c, m, n, D, Pl, hcs, _, hl, hm, hmm, hd, hx⟩
  · simp [Value.cells] at hcs
    obtain ⟨rfl, rfl, rfl⟩ := hcs
    exact ⟨[], ⟨rfl, Nat.le_refl _, by decide, .inl rfl⟩, Nat.zero_le _, fun x hx => by cases hx⟩
  · simp [Value.cells] at hcs
    obtain ⟨rfl, rfl, rfl⟩ := hcs
    have hd1 : d = .slice ((List.range len).map D) ((List.range (m - len)).map fun j => D (len + j)) := congrArg Prod.fst hd
    rw [hd1] at hK
    have hel := Nat.le_trans (bulks.slice_elems _ _) hK
    have hlen : len ≤ K := by
      have := Nat.le_trans (bulks.slice_le _ _) hK
      simp at this
      omega
    have hDi : ∀ i, i < len → Rows.uptoBulk (D i) ≤ K := fun i hi => by
      have := bulks.part_le (List.mem_map.2 ⟨i, List.mem_range.2 hi, rfl⟩ : D i ∈ (List.range len).map D)
      omega
    by_cases h0 : len = 0
    · subst h0
      exact ⟨[], ⟨rfl, Nat.zero_le _, hm, .inl rfl⟩, Nat.zero_le _, fun x hx => by cases hx⟩
    have hlm : len ≤ m := by rw [hmm]; simp; exact hl
    obtain ⟨L, hL, hp⟩ := choose_list (α := ActT) len (fun i q => q.d.length = 16 ∧ (q.sec.length ≤ K ∧ q.rep.length ≤ K) ∧ ∃ y, IsAct W q y ∧ ∀ j v, (q.cells y)[j]? = some v → W.cell? (x.add (i * 23 + j)) = some v) (fun i hi => by
      obtain ⟨cs', h1, h2⟩ := hx i (by omega)
      rw [ce] at h1
      obtain ⟨_, hlen3, hcell⟩ := World.cells?_some h1
      obtain ⟨xs, k, hk, hxy, _, hxl, hf3⟩ := DataW.trod_struct Tryz.underlying33 h2
      obtain ⟨y0, y1, y2, y3, y4, y5, y6, y7, rfl⟩ := len8 xs hxl
      have kk : ∀ t i m, Tryz.prog.cellsOf t = m → ∀ z : DataW H × List MemPlace, DataW.trod enc Tryz.prog W base (fun _ => true) held k t ((cs'.drop i).take (Tryz.prog.cellsOf t)) = some z → DataW.trod enc Tryz.prog W base (fun _ => true) held k t ((cs'.drop i).take m) = some z := fun t i m ht z h => by rwa [ht] at h
      have hDe : D i = .agg [y0.1, y1.1, y2.1, y3.1, y4.1, y5.1, y6.1, y7.1] := by simpa using congrArg Prod.fst hxy
      have hDK := hDi i hi
      rw [hDe] at hDK
      simp only [Rows.uptoBulk, Rows.uptoBulkAll] at hDK
      obtain ⟨z0, e0⟩ := g_u8 Tryz.underlying5 (kk 5 0 1 (by kernel_rfl) _ (hf3 0 _ rfl))
      obtain ⟨z1, e1⟩ := g_u8 Tryz.underlying5 (kk 5 1 1 (by kernel_rfl) _ (hf3 1 _ rfl))
      obtain ⟨sa, sn, sc, sl, e2, hB2, b2⟩ := g_bytes Tryz.underlying24 Tryz.underlying5 (by kernel_rfl) (kk 24 2 1 (by kernel_rfl) _ (hf3 2 _ rfl))
      obtain ⟨z3, hz3, e3⟩ := g_draw Tryz.underlying30 Tryz.underlying5 (by kernel_rfl) (by kernel_rfl) (kk 30 3 16 (by kernel_rfl) _ (hf3 3 _ rfl))
      obtain ⟨z4, e4⟩ := g_u64 Tryz.underlying25 (kk 25 19 1 (by kernel_rfl) _ (hf3 4 _ rfl))
      obtain ⟨z5, e5⟩ := g_u32 Tryz.underlying31 (kk 31 20 1 (by kernel_rfl) _ (hf3 5 _ rfl))
      obtain ⟨z6, e6⟩ := g_u32 Tryz.underlying31 (kk 31 21 1 (by kernel_rfl) _ (hf3 6 _ rfl))
      obtain ⟨ra, rn, rc, rl, e7, hB7, b7⟩ := g_bytes Tryz.underlying24 Tryz.underlying5 (by kernel_rfl) (kk 24 22 1 (by kernel_rfl) _ (hf3 7 _ rfl))
      have ec : cs' = ActT.cells ⟨z0, z1, sl, z3, z4, z5, z6, rl⟩ ⟨sa, sn, sc, ra, rn, rc⟩ := by
        have e : cs' = cs'.drop 0 := rfl
        rw [e, piece cs' 0 1, e0, piece cs' (0 + 1) 1, e1, piece cs' (0 + 1 + 1) 1, e2, piece cs' (0 + 1 + 1 + 1) 16, e3, piece cs' (0 + 1 + 1 + 1 + 16) 1, e4, piece cs' (0 + 1 + 1 + 1 + 16 + 1) 1, e5, piece cs' (0 + 1 + 1 + 1 + 16 + 1 + 1) 1, e6, piece cs' (0 + 1 + 1 + 1 + 16 + 1 + 1 + 1) 1, e7, List.drop_eq_nil_of_le (by omega)]
        simp [ActT.cells]
      refine ⟨⟨z0, z1, sl, z3, z4, z5, z6, rl⟩, hz3, ⟨by dsimp only; omega, by dsimp only; omega⟩, ⟨sa, sn, sc, ra, rn, rc⟩, ⟨hB2, hB7⟩, fun j v hj => ?_⟩
      rw [← ec] at hj
      have hj2 := (List.getElem?_eq_some_iff.1 hj).1
      have := hcell j (by omega)
      rw [add_add] at this
      rw [this]
      simpa using hj)
    obtain ⟨_, _, y0, _, hc0⟩ := hp 0 (by omega)
    have h00 := hc0 0 _ rfl
    simp only [Nat.zero_mul, Nat.add_zero] at h00
    rw [show x.add 0 = x by simp [Addr.add]] at h00
    obtain ⟨hsp, hlt⟩ := addr_spot h00
    obtain ⟨b, off, spot⟩ := x
    simp at hsp
    subst hsp
    refine ⟨L, ⟨hL.symm, by omega, hm, .inr ⟨b, off, rfl, hlt, fun i hi => ?_⟩⟩, by omega, fun y hy => ?_⟩
    · obtain ⟨k1, _, y, hy, hc⟩ := hp i hi
      refine ⟨k1, y, fun j v hj => ?_, hy⟩
      have := hc j v hj
      rwa [addr_add, ← Nat.add_assoc] at this
    · obtain ⟨i, hi, rfl⟩ := List.getElem_of_mem hy
      exact (hp i hi).2.1
end

end Go.Proofs.YthadgnaaipdpaaaGreatDoor
