/- The statement PhasesOrder: what it returns; conditions: those typed. -/
import Derived.Test.YteonifhncpnjiaaDoorPhasesLaw
import Derived.Deep.WholeRow
namespace Go.Proofs.YteonifhncpnjiaaDoor
open Go.RowKit
set_option linter.unusedVariables false

theorem swapI_perm (L : List Int) (i j : Nat) (hi : i < L.length) (hj : j < L.length) : (swapI L i j).Perm L := by
  unfold swapI
  rw [List.getD_eq_getElem?_getD, List.getD_eq_getElem?_getD, List.getElem?_eq_getElem hi, List.getElem?_eq_getElem hj]
  exact List.set_set_perm hi hj
theorem ordGo_perm (ds : List UInt8) (n : Nat) : ∀ (i : Nat) (L : List Int), i < L.length → (ordGo ds n i L).Perm L := by
  intro i
  induction i with
  | zero => intro L _; exact List.Perm.refl _
  | succ i ih =>
    intro L h
    have hj : ordJ ds n (i + 1) < L.length := Nat.lt_of_le_of_lt (Nat.le_of_lt_succ (Nat.mod_lt _ (Nat.succ_pos _))) h
    exact (ih _ (by rw [swapI_length]; omega)).trans (swapI_perm L _ _ h hj)
theorem orderI_perm (ds : List UInt8) (n : Nat) (h : 1 ≤ n) : (orderI ds n).Perm (rangeI n) := ordGo_perm ds n (n - 1) _ (by rw [rangeI_length]; omega)
theorem ordGo_same (ds es : List UInt8) (n : Nat) (hn : n ≤ 8) (h : ∀ k, k < 8 → ds.getD k 0 = es.getD k 0) : ∀ (i : Nat) (L : List Int), ordGo ds n i L = ordGo es n i L := by
  intro i
  induction i with
  | zero => intro L; rfl
  | succ i ih =>
    intro L
    show ordGo ds n i (swapI L (i + 1) (ordJ ds n (i + 1))) = ordGo es n i (swapI L (i + 1) (ordJ es n (i + 1)))
    have e : ordJ ds n (i + 1) = ordJ es n (i + 1) := by unfold ordJ; rw [h _ (by omega)]
    rw [e, ih]
theorem count_one (ds : List UInt8) (n k : Nat) (h1 : 1 ≤ n) (hk : k < n) : (orderI ds n).count (k : Int) = 1 := by
  rw [(orderI_perm ds n h1).count_eq]
  have hnd : (rangeI n).Nodup := by
    unfold rangeI
    exact List.Pairwise.map _ (fun a b h e => h (Int.ofNat.inj e)) List.nodup_range
  rw [hnd.count, if_pos (by unfold rangeI; exact List.mem_map.2 ⟨k, List.mem_range.2 hk, rfl⟩)]

theorem sizeDraw : (Tryd.prog.info? 33).map (·.size) = some 16 := by kernel_rfl

theorem set15 (ds : List UInt8) (D : Array Value) (x : UInt8) (hl : ds.length = 16) (hs : 15 < D.size) (hD : ∀ i, i < 16 → D[i]? = some (.int .u8 (ds.getD i 0).toNat)) :
    ∀ i, i < 16 → (#[D[0], D[1], D[2], D[3], D[4], D[5], D[6], D[7], D[8], D[9], D[10], D[11], D[12], D[13], D[14], Value.int .u8 x.toNat] : Array Value)[i]? = some (.int .u8 ((ds.set 15 x).getD i 0).toNat) := by
  intro i hi
  have key : ∀ (k : Nat) (hk : k < 15), some (D[k]'(by omega)) = some (Value.int .u8 ((ds.set 15 x).getD k 0).toNat) := fun k hk => by
    rw [← Array.getElem?_eq_getElem (by omega), hD k (by omega)]
    have : k < ds.length := by omega
    have hne : ¬ (15 = k) := by omega
    simp [hne]
  match i, hi with
  | 0, _ => exact key 0 (by decide)
  | 1, _ => exact key 1 (by decide)
  | 2, _ => exact key 2 (by decide)
  | 3, _ => exact key 3 (by decide)
  | 4, _ => exact key 4 (by decide)
  | 5, _ => exact key 5 (by decide)
  | 6, _ => exact key 6 (by decide)
  | 7, _ => exact key 7 (by decide)
  | 8, _ => exact key 8 (by decide)
  | 9, _ => exact key 9 (by decide)
  | 10, _ => exact key 10 (by decide)
  | 11, _ => exact key 11 (by decide)
  | 12, _ => exact key 12 (by decide)
  | 13, _ => exact key 13 (by decide)
  | 14, _ => exact key 14 (by decide)
  | 15, _ => simp [hl]
  | k + 16, h => omega

set_option maxRecDepth 100000 in
set_option maxHeartbeats 4000000 in
theorem pord_any (ds : List UInt8) (D : Array Value) (bd more : Nat) (w : World) (hDe : D = (ds.map fun b => Value.int .u8 b.toNat).toArray) (hl : ds.length = 16) (hbd : bd < 256) (hmore : more < 256) (hL : Laid w) :
    Calls Tryd.prog 4 #[.agg D, .int .u8 bd, .int .u8 more] w fun e w' => e = .returned (.bool true) ∧ Below w.heap.size w w' := by
  obtain ⟨n, hn⟩ : ∃ n : Nat, n = 1 + bd % 8 := ⟨_, rfl⟩
  have hnI : (1 + (bd : Int) % 8) = (n : Int) := by rw [hn]; simp
  have hn1 : 1 ≤ n := by omega
  have hn8 : n ≤ 8 := by omega
  have hD := hD_of ds D hDe hl
  have hDs : D.size = 16 := by rw [hDe]; simp [hl]
  have hD1 : D.all (·.oneCell') = true := by rw [hDe]; simp [Value.oneCell']
  have hi33 : (Tryd.prog.info? 33).map (·.size) = some D.size := by rw [hDs]; exact sizeDraw
  have hst := fun (w : World) (c : Array Value) (h : c.size = 16) => run_storeCells_new (P := Tryd.prog) w 33 c D hi33 (h.trans hDs.symm) hD1
  obtain ⟨c15, h15⟩ : ∃ c : UInt8, D[15]? = some (.int .u8 c.toNat) := ⟨_, hD 15 (by decide)⟩
  have hx15 : ∀ w : World, (w.alloc (.cells D 33)).cell? ⟨w.heap.size, 15, none⟩ = some (.int .u8 c15.toNat) := fun w => by rw [cell_of_block (heap_new w _)]; exact h15
  have hlt15 : 15 < D.size := by omega
  have HN := Lib.hid hnI
  have HD := Lib.hid hD
  have HDs := Lib.hid hDs
  have HI := Lib.hid hi33
  clear hn hnI hD hDe hi33 hD1
  go_enter Tryd.func4, Tryd.ntmps4
  go_wp2_with (refine wpList_load_row rfl 33 _ rfl w.heap.size rfl _ D _ _ (heap_new w _) Tryd.underlying33 rfl HI.out ?_)
  rw [HN.out]
  refine (order_good ds _ n _ hn1 hn8 HD.out).mono ?_; rintro e w1 ⟨g, rfl, hb1, hown1⟩
  have hblk : w1.heap[w.heap.size]? = some (.cells D 33) := (hb1.block _ (by simp)).trans (heap_new w _)
  have hsz : w1.heap.size ≠ w.heap.size := by have := hb1.size; simp at this; omega
  go_wp2_with (refine wpList_load_row rfl 33 (.tmp 3) rfl w.heap.size rfl _ D _ _ hblk Tryd.underlying33 rfl HI.out ?_)
  have hxv : ((c15.toNat : Int) + (more : Int)) % 256 = ((UInt8.ofNat ((c15.toNat + more) % 256)).toNat : Int) := by simp
  rw [hxv]
  generalize UInt8.ofNat ((c15.toNat + more) % 256) = x
  have hi1 : IsI w1 (some ⟨g, 0, none⟩) n n (orderI ds n) := isI_of_owns hown1 (by have := hown1.1; rw [icells_length] at this; omega)
  have hs1 := hb1.size
  simp at hs1
  clear hst hx15 hxv hown1
  refine (order_good (ds.set 15 x) _ n _ hn1 hn8 (set15 ds D x hl hlt15 HD.out)).mono ?_; rintro e w2 ⟨g2, rfl, hb2, hown2⟩
  have hi2 : IsI w2 (some ⟨g2, 0, none⟩) n n (orderI (ds.set 15 x) n) := isI_of_owns hown2 (by have := hown2.1; rw [icells_length] at this; omega)
  have hos : orderI (ds.set 15 x) n = orderI ds n := by
    unfold orderI
    exact ordGo_same _ _ n hn8 (fun k hk => by have hne : ¬ (15 = k) := by omega
                                               simp [hne]) _ _
  rw [hos] at hi2
  have hb12 := (bel_alloc2 w1 (.cells (D.setIfInBounds 15 (Value.int .u8 x.toNat)) 33)).trans (hb2.mono (by simp))
  have hblk2 : w2.heap[w.heap.size]? = some (.cells D 33) := (hb12.block _ (by omega)).trans hblk
  have hi12 := hi1.below hb12
  have hs2 := hb12.size
  clear hown2 hos hb2
  generalize (#[D[0], D[1], D[2], D[3], D[4], D[5], D[6], D[7], D[8], D[9], D[10], D[11], D[12], D[13], D[14], Value.int .u8 x.toNat] : Array Value) = E
  clear h15 hlt15
  go_wp2_with (refine wpList_load_row rfl 33 (.tmp 3) rfl w.heap.size rfl _ D _ _ hblk2 Tryd.underlying33 rfl HI.out ?_)
  refine (order_bad _ 0 _ (by decide)).mono ?_; rintro e w3 ⟨rfl, hb3⟩
  have hblk3 : w3.heap[w.heap.size]? = some (.cells D 33) := (hb3.block _ (by omega)).trans hblk2
  have hs3 := hb3.size
  go_wp2_with (refine wpList_load_row rfl 33 (.tmp 3) rfl w.heap.size rfl _ D _ _ hblk3 Tryd.underlying33 rfl HI.out ?_)
  refine (order_bad _ 9 _ (by decide)).mono ?_; rintro e w4 ⟨rfl, hb4⟩
  have hs4 := hb4.size
  have hi24 := (hi2.below hb3).below hb4
  have hi14 := (hi12.below hb3).below hb4
  have hnn : ((n : Int) != (n : Int)) = false := by simp
  go_wp2_with fail
  refine (same_any _ _ _ _ _ _ _ _ _ hi14 hi24).mono ?_; rintro e w5 ⟨rfl, j5, rfl⟩
  rw [decide_eq_true rfl]
  go_wp2_with fail
  have hcnt := fun k hk => count_one ds n k hn1 hk
  have hLn := hi14.1
  have hL4 := ((hL.below ((bel_alloc2 w _).trans (hb1.mono (by simp)))).below hb12).below hb3 |>.below hb4
  have hbel : Below w.heap.size w w4 := (((bel_alloc2 w _).trans (hb1.mono (by simp))).trans ((hb12.mono (by omega)).trans (hb3.mono (by omega)))).trans (hb4.mono (by omega))
  clear hi2 hi12 hi24 hi1 hblk hblk2 hblk3 hb3 hb4 hb12 hb1 hL hs2 hs3 hs4 hsz
  have hcc := hi14.2.2.2
  clear hi14
  revert hcnt hLn hcc
  generalize orderI ds n = L
  intro hcnt hLn hcc
  have hcells : ∀ k (h : k < L.length), w4.cell? ⟨g, k, none⟩ = some (.int .i64 L[k]) := by
    rcases hcc with ⟨rfl, _⟩ | ⟨b', o', hv, _, hc⟩
    · simp at hLn; omega
    · cases hv
      intro k h
      have := hc k h
      rwa [Nat.zero_add] at this
  clear hcc hnn hbd hmore
  have HC := Lib.hid hcells
  have HT := Lib.hid hcnt
  have HL4 := Lib.hid hL4
  have HLn := Lib.hid hLn
  clear hcells hcnt hL4 hLn
  go_loop [17] (fun v => ∃ i : Nat, i ≤ n ∧ v = .int .i64 i) (fun v => n - (intOf v).toNat)
  case atStart => exact ⟨0, Nat.zero_le _, rfl⟩
  case round =>
    obtain ⟨i, hin, rfl⟩ := hrel
    by_cases hlt : i < n
    · go_wp2
      go_loop [18, 19] (fun v u => ∃ k : Nat, k ≤ n ∧ u = .int .i64 k ∧ v = .int .i64 ((L.take k).count (i : Int))) (fun _ u => n - (intOf u).toNat)
      case atStart => exact ⟨0, Nat.zero_le _, rfl, rfl⟩
      case round =>
        obtain ⟨k, hkn, rfl, rfl⟩ := hrel
        have hcb : (L.take k).count (i : Int) ≤ k := Nat.le_trans List.count_le_length (List.length_take_le _ _)
        by_cases hkl : k < n
        · have hkL : k < L.length := by rw [← HLn.out]; exact hkl
          have hcell := HC.out k hkL
          have hsn : (L.take (k + 1)).count (i : Int) = (L.take k).count (i : Int) + if L[k] == (i : Int) then 1 else 0 := by
            rw [List.take_succ_eq_append_getElem hkL, List.count_append, List.count_singleton]
          have HS := Lib.hid hsn
          clear hsn
          by_cases he : L[k] = (i : Int)
          · have hee : (L[k] == (i : Int)) = true := by rw [he]; simp
            have HE := Lib.hid hee
            clear he
            go_wp2
            go_round
            case rel => exact ⟨k + 1, by omega, by go_num, by rw [HS.out, if_pos HE.out]; go_num⟩
            case measure => simp [intOf]; omega
          · have hee : (L[k] == (i : Int)) = false := by rw [beq_eq_false_iff_ne]; exact he
            have HE := Lib.hid hee
            clear he
            go_wp2
            go_round
            case rel => exact ⟨k + 1, by omega, by go_num, by rw [HS.out, HE.out]; rfl⟩
            case measure => simp [intOf]; omega
        · have hkk : k = n := by omega
          subst hkk
          have hone : (L.take k).count (i : Int) = 1 := by rw [HLn.out, List.take_length]; exact HT.out i hlt
          rw [hone]
          clear hone hcb
          go_wp2
          go_round
          case rel => exact ⟨i + 1, by omega, by go_num⟩
          case measure => simp [intOf]; omega
    · have hin' : i = n := by omega
      subst hin'
      go_wp2_with fail
      refine (lives_any _ (HL4.out.below (below_drewN (Below.refl _ _) j5))).mono ?_; rintro e w6 ⟨rfl, hb6⟩
      go_wp2_with fail
      go_ret
      exact ⟨rfl, hbel.trans ((below_drewN (Below.refl _ _) j5).trans (hb6.mono (by simpa using hbel.size)))⟩

theorem pord_any2 (ds : List UInt8) (bd more : Nat) (w : World) (hl : ds.length = 16) (hbd : bd < 256) (hmore : more < 256) (hL : Laid w) :
    Calls Tryd.prog 4 #[.agg (ds.map fun b => Value.int .u8 b.toNat).toArray, .int .u8 bd, .int .u8 more] w fun e w' => e = .returned (.bool true) ∧ Below w.heap.size w w' :=
  pord_any ds _ bd more w rfl hl hbd hmore hL

end Go.Proofs.YteonifhncpnjiaaDoor
