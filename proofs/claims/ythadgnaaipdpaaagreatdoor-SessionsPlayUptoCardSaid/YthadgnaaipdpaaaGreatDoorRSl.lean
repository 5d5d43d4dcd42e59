/- The document's sessions (salesroomref23): Login; conditions: those typed. -/
import Derived.Test.YthadgnaaipdpaaaGreatDoorRSq
import Derived.Laws.BitsAllLaws
namespace Go.Proofs.YthadgnaaipdpaaaGreatDoor
open Go.RowKit
set_option linter.unusedVariables false
set_option linter.unusedSimpArgs false
set_option maxRecDepth 100000

/-- The last m of a draw's first N bytes, as a number. -/
def hiN (N : Nat) (d : List UInt8) : Nat → Nat
  | 0 => 0
  | m + 1 => hiN N d m * 256 + (d.getD (N - 1 - m) 0).toNat
theorem hiN_tok (N : Nat) (d : List UInt8) (m : Nat) : ∀ j, m + j = N → tokN d N = tokN d j + hiN N d m * 2 ^ (8 * j) := by
  induction m with
  | zero =>
    intro j hj
    have e : j = N := by omega
    rw [e]
    simp [hiN]
  | succ m ih =>
    intro j hj
    have h1 := ih (j + 1) (by omega)
    have e2 : tokN d (j + 1) = tokN d j + (d.getD j 0).toNat * 2 ^ (8 * j) := rfl
    have e4 : hiN N d (m + 1) = hiN N d m * 256 + (d.getD (N - 1 - m) 0).toNat := rfl
    have e5 : N - 1 - m = j := by omega
    rw [h1, e2, e4, e5, Nat.add_mul, Nat.mul_succ 8 j, Nat.pow_add]
    generalize 2 ^ (8 * j) = Y
    generalize (d.getD j 0).toNat = X
    generalize hiN N d m = Z
    rw [Nat.add_assoc, Nat.add_comm (X * Y), ← Nat.add_assoc, Nat.mul_assoc Z 256 Y, Nat.mul_comm 256 Y, show (2 : Nat) ^ 8 = 256 from rfl, Nat.add_assoc]
theorem hiN_eq (N : Nat) (d : List UInt8) : hiN N d N = tokN d N := by
  have := hiN_tok N d N 0 (Nat.add_zero N)
  rw [Nat.mul_zero, Nat.pow_zero, Nat.mul_one, show tokN d 0 = 0 from rfl, Nat.zero_add] at this
  exact this.symm
theorem hiN_lt (N : Nat) (d : List UInt8) (m : Nat) : hiN N d m < 256 ^ m := by
  induction m with
  | zero => simp [hiN]
  | succ m ih =>
    have h := (d.getD (N - 1 - m) 0).toNat_lt
    have e4 : hiN N d (m + 1) = hiN N d m * 256 + (d.getD (N - 1 - m) 0).toNat := rfl
    rw [e4, Nat.pow_succ]
    omega
theorem or_step (n c : Nat) (hn : n < 72057594037927936) (hc : c < 256) : bits .or .u64 ((n : Int) * 256) (IntKind.u64.wrap (c : Int)) = ((n * 256 + c : Nat) : Int) := by
  have hw : ((n : Int) * 256) = ((n * 256 : Nat) : Int) := by omega
  have hw2 : IntKind.u64.wrap (c : Int) = (c : Int) := by rw [IntKind.wrap_u64]; omega
  rw [hw, hw2, u64_or_nat _ _ (by omega) (by omega)]
  congr 1
  have := Nat.two_pow_add_eq_or_of_lt (i := 8) (b := c) (by omega) n
  rw [Nat.mul_comm n 256]
  exact this.symm

set_option maxHeartbeats 2000000 in
theorem rlogin_no (B rt : Nat) (ro : Option Addr) (rc : Nat) (L : List One) (T : Tbl) (n : Nat) (k : UInt8) (a : Option Addr) (m c : Nat) (l : List UInt8) (d : List UInt8) (w : World) (h : IsRT w B rt ro rc L) (hc : Cor T L n) (hl : IsB w a m c l) (hn : ¬ T.knows k l) :
    Calls Tryz.prog 12 #[.pointer (some ⟨rt, 0, none⟩), .int .u8 k.toNat, .slice a m c, drawV d] w fun e w' => e = .returned (.tuple #[.int .u64 0, .int .i64 9]) ∧ Below w.heap.size w w' := by
  obtain rfl := hl.1
  unfold drawV
  have hb : Below w.heap.size w (w.alloc (.cells (d.map fun b => Value.int .u8 b.toNat).toArray 30)) := (Below.refl _ _).alloc (Nat.le_refl _) _
  have h' := h.below hb
  have hl' := hl.below hb
  clear h hl
  have HB := Lib.hid hb
  clear hb
  have f0 := h'.field
  have hfew := h'.few
  have H := Lib.hid h'
  obtain ⟨M, hM⟩ : ∃ M, M = L.length := ⟨_, rfl⟩
  have HM := Lib.hid hM
  rw [← hM] at f0 hfew
  rcases of_cases L k with ⟨i, hi, hI, hw⟩ | ⟨hI, hno⟩
  · by_cases hl0 : l = []
    · subst hl0
      have HI := Lib.hid hI
      clear h' hn hI hw hM hl'
      go_enter Tryz.func12, Tryz.ntmps12
      go_wp2_with fail
      refine (rof_t B rt _ rc L k _ H.out).mono ?_; rintro e w' ⟨rfl, rfl⟩; rw [HI.out]
      have hi0 : decide ((i : Int) < 0) = false := by simp
      go_wp2_with fail
      go_quiet (fail)
      go_wp2_with fail
      go_ret2
      exact ⟨rfl, HB.out.trans (below_drewN (Below.refl _ _) _ |>.mono HB.out.size)⟩
    · obtain ⟨rl, cur, rfl, hg, hB, g1, g2, g3, hcell⟩ := h'.at (by omega)
      have c1 := hcell i hi 1 (by decide)
      have c1' : (w.alloc (.cells (d.map fun b => Value.int .u8 b.toNat).toArray 30)).cell? ⟨rl, i * 7 + 1, none⟩ = some (.slice L[i].sa L[i].sec.length L[i].sc) := c1
      have hok := (h'.ok L[i] (List.getElem_mem hi)).1
      have hib := isB_of_owns hok rfl
      have hT := hc.sec i hi
      rw [hw] at hT
      have hne : L[i].sec ≠ l := fun e => hn ⟨by rw [hT, e], hl0⟩
      have HI := Lib.hid hI
      have hiM : i < M := by omega
      rw [← hM] at g1
      have q1 : ∀ n, (convert 24 9 (.slice L[i].sa L[i].sec.length L[i].sc)).run Tryz.prog ((w.alloc (.cells (d.map fun b => Value.int .u8 b.toNat).toArray 30)).drewN n) = .ok (.string (strB L[i].sec)) ((w.alloc (.cells (d.map fun b => Value.int .u8 b.toNat).toArray 30)).drewN n) := fun n => run_str_isB Tryz.underlying24 Tryz.underlying5 Tryz.underlying9 (hib.below (below_drewN (Below.refl _ _) n))
      have q2 : ∀ n, (convert 24 9 (.slice a l.length c)).run Tryz.prog ((w.alloc (.cells (d.map fun b => Value.int .u8 b.toNat).toArray 30)).drewN n) = .ok (.string (strB l)) ((w.alloc (.cells (d.map fun b => Value.int .u8 b.toNat).toArray 30)).drewN n) := fun n => run_str_isB Tryz.underlying24 Tryz.underlying5 Tryz.underlying9 (hl'.below (below_drewN (Below.refl _ _) n))
      have hq : ((strB L[i].sec).toList == (strB l).toList) = false := by rw [strB_beq, decide_eq_false hne]
      have hq2 : ((strB L[i].sec).toList != (strB l).toList) = true := by rw [bne, hq]; rfl
      have hl1 : ((l.length : Int) == 0) = false := by rw [beq_eq_false_iff_ne]; have := List.length_pos_iff.2 hl0; omega
      have hi0 : decide ((i : Int) < 0) = false := by simp
      clear h' hn hI hw hM hl' hcell hg g3 hok hib hT hne hl0 c1
      generalize L[i] = x at c1' q1 hq hq2
      go_enter Tryz.func12, Tryz.ntmps12
      go_wp2_with fail
      refine (rof_t B rt _ rc L k _ H.out).mono ?_; rintro e w' ⟨rfl, rfl⟩; rw [HI.out]
      generalize w.alloc (.cells (d.map fun b => Value.int .u8 b.toNat).toArray 30) = w0 at f0 c1' q1 q2 HB H ⊢
      go_wp2_with fail
      go_quiet (fail)
      go_wp2_with fail
      go_ret2
      exact ⟨rfl, HB.out.trans (below_drewN (Below.refl _ _) _ |>.mono HB.out.size)⟩
  · have HI := Lib.hid hI
    clear h' hn hI hno hM hl'
    have hi0 : decide ((-1 : Int) < 0) = true := rfl
    go_enter Tryz.func12, Tryz.ntmps12
    go_wp2_with fail
    refine (rof_t B rt _ rc L k _ H.out).mono ?_; rintro e w' ⟨rfl, rfl⟩; rw [HI.out]
    go_wp2_with fail
    go_quiet (fail)
    go_wp2_with fail
    go_ret2
    exact ⟨rfl, HB.out.trans (below_drewN (Below.refl _ _) _ |>.mono HB.out.size)⟩

/-- The block of a table's row. -/
def RoS (ro : Option Addr) (k : Nat) : Prop := ro = some ⟨k, 0, none⟩
theorem Cor.login {T : Tbl} {L : List One} {n : Nat} (h : Cor T L n) (i : Nat) (hi : i < L.length) (v : UInt64) : Cor { T with tokens := fun j => if j = L[i].who then some v else T.tokens j } (L.set i { L[i] with in_ := true, tok := v }) n := by
  have hw : ∀ j (hj : j < (L.set i { L[i] with in_ := true, tok := v }).length) (hj' : j < L.length), (L.set i { L[i] with in_ := true, tok := v })[j].who = L[j].who ∧ (L.set i { L[i] with in_ := true, tok := v })[j].sec = L[j].sec ∧ (L.set i { L[i] with in_ := true, tok := v })[j].kept = L[j].kept ∧ (L.set i { L[i] with in_ := true, tok := v })[j].seq = L[j].seq ∧ (L.set i { L[i] with in_ := true, tok := v })[j].rep = L[j].rep := fun j hj hj' => by
    rw [List.getElem_set]
    by_cases e : i = j
    · subst e; rw [if_pos rfl]; exact ⟨rfl, rfl, rfl, rfl, rfl⟩
    · rw [if_neg e]; exact ⟨rfl, rfl, rfl, rfl, rfl⟩
  refine ⟨h.n1, h.n8, by simpa using h.len, fun j hj => ?_, fun j hj => ?_, fun j hj => ?_, fun j hj => ?_, fun k hk => ?_, fun j hj => by rw [(hw j hj (by simpa using hj)).2.2.2.2]; exact h.short j (by simpa using hj)⟩
  · have hj' : j < L.length := by simpa using hj
    rw [(hw j hj hj').1]; exact h.whos j hj'
  · have hj' : j < L.length := by simpa using hj
    rw [(hw j hj hj').1, (hw j hj hj').2.1]; exact h.sec j hj'
  · have hj' : j < L.length := by simpa using hj
    rw [(hw j hj hj').1]
    dsimp only
    rw [List.getElem_set]
    by_cases e : i = j
    · subst e; rw [if_pos rfl, if_pos rfl]; rfl
    · rw [if_neg e, if_neg (fun e2 => e (h.inj hi hj' e2.symm))]; exact h.tok j hj'
  · have hj' : j < L.length := by simpa using hj
    rw [(hw j hj hj').1, (hw j hj hj').2.2.1, (hw j hj hj').2.2.2.1, (hw j hj hj').2.2.2.2]; exact h.kept j hj'
  · have hk' : ∀ j (hj : j < L.length), L[j].who ≠ k := fun j hj => by
      have := hk j (by simpa using hj)
      rwa [(hw j (by simpa using hj) hj).1] at this
    obtain ⟨a1, a2, a3⟩ := h.no k hk'
    refine ⟨a1, ?_, a3⟩
    dsimp only
    rw [if_neg (fun e => hk' i hi e.symm)]; exact a2

set_option maxHeartbeats 4000000 in
theorem rlogin_yes (B rt : Nat) (ro : Option Addr) (rc : Nat) (L : List One) (T : Tbl) (n : Nat) (k : UInt8) (a : Option Addr) (m c : Nat) (l : List UInt8) (d : List UInt8) (w : World) (h : IsRT w B rt ro rc L) (hc : Cor T L n) (hl : IsB w a m c l) (hn : T.knows k l) (hd : d.length = 16) :
    Calls Tryz.prog 12 #[.pointer (some ⟨rt, 0, none⟩), .int .u8 k.toNat, .slice a m c, drawV d] w fun e w' => e = .returned (.tuple #[.int .u64 (tok d).toNat, .int .i64 0]) ∧ Touch (RoS ro) w w' ∧ ∃ L', IsRT w' B rt ro rc L' ∧ Cor { T with tokens := fun j => if j = k then some (tok d) else T.tokens j } L' n := by
  obtain rfl := hl.1
  unfold drawV
  have hb : Below w.heap.size w (w.alloc (.cells (d.map fun b => Value.int .u8 b.toNat).toArray 30)) := (Below.refl _ _).alloc (Nat.le_refl _) _
  have hcd : ∀ i (hi : i < d.length), (w.alloc (.cells (d.map fun b => Value.int .u8 b.toNat).toArray 30)).cell? ⟨w.heap.size, i, none⟩ = some (.int .u8 d[i].toNat) := fun i hi => by
    rw [cell_of_block (heap_new w _)]; simp [hi]
  have h' := h.below hb
  have hl' := hl.below hb
  clear h hl
  have HB := Lib.hid hb
  clear hb
  have f0 := h'.field
  have hfew := h'.few
  have H := Lib.hid h'
  obtain ⟨M, hM⟩ : ∃ M, M = L.length := ⟨_, rfl⟩
  have HM := Lib.hid hM
  rw [← hM] at f0 hfew
  obtain ⟨hsec, hl0⟩ := hn
  obtain ⟨i, hi, hI, hw⟩ : ∃ i, ∃ hi : i < L.length, ofI L k = (i : Int) ∧ L[i].who = k := by
    rcases of_cases L k with h1 | ⟨_, h2⟩
    · exact h1
    · rw [(hc.no k h2).1] at hsec; cases hsec
  obtain ⟨rl, cur, rfl, hg, hB, g1, g2, g3, hcell⟩ := h'.at (by omega)
  have c1' : (w.alloc (.cells (d.map fun b => Value.int .u8 b.toNat).toArray 30)).cell? ⟨rl, i * 7 + 1, none⟩ = some (.slice L[i].sa L[i].sec.length L[i].sc) := hcell i hi 1 (by decide)
  have hok := (h'.ok L[i] (List.getElem_mem hi)).1
  have hib := isB_of_owns hok rfl
  have hT := hc.sec i hi
  rw [hw, hsec] at hT
  have hle : L[i].sec = l := (Option.some.inj hT).symm
  have HI := Lib.hid hI
  have HX := Lib.hid hw
  have HC := Lib.hid hc
  have HIL := Lib.hid hi
  have hiM : i < M := by omega
  rw [← hM] at g1
  rw [hle] at c1' hib
  have q1 : ∀ n, (convert 24 9 (.slice L[i].sa l.length L[i].sc)).run Tryz.prog ((w.alloc (.cells (d.map fun b => Value.int .u8 b.toNat).toArray 30)).drewN n) = .ok (.string (strB l)) ((w.alloc (.cells (d.map fun b => Value.int .u8 b.toNat).toArray 30)).drewN n) := fun n => run_str_isB Tryz.underlying24 Tryz.underlying5 Tryz.underlying9 (hib.below (below_drewN (Below.refl _ _) n))
  have q2 : ∀ n, (convert 24 9 (.slice a l.length c)).run Tryz.prog ((w.alloc (.cells (d.map fun b => Value.int .u8 b.toNat).toArray 30)).drewN n) = .ok (.string (strB l)) ((w.alloc (.cells (d.map fun b => Value.int .u8 b.toNat).toArray 30)).drewN n) := fun n => run_str_isB Tryz.underlying24 Tryz.underlying5 Tryz.underlying9 (hl'.below (below_drewN (Below.refl _ _) n))
  have hq : ((strB l).toList == (strB l).toList) = true := by simp
  have hq2 : ((strB l).toList != (strB l).toList) = false := by simp
  have hl1 : ((l.length : Int) == 0) = false := by rw [beq_eq_false_iff_ne]; have := List.length_pos_iff.2 hl0; omega
  have hi0 : decide ((i : Int) < 0) = false := by simp
  have HCD := Lib.hid hcd
  clear h' hI hw hM hl' hcell hg g3 hok hib hT hl0 hle hc hsec hcd
  generalize L[i].sa = xsa at c1' q1
  generalize L[i].sc = xsc at c1' q1
  go_enter Tryz.func12, Tryz.ntmps12
  go_wp2_with fail
  refine (rof_t B rt _ rc L k _ H.out).mono ?_; rintro e w' ⟨rfl, rfl⟩; rw [HI.out]
  generalize w.alloc (.cells (d.map fun b => Value.int .u8 b.toNat).toArray 30) = w0 at f0 c1' q1 q2 HB H HCD ⊢
  go_wp2_with fail
  go_quiet (fail)
  go_wp2_with fail
  have HB2 : Hid (Below w.heap.size w (w0.drewN nq)) := Lib.hid (HB.out.trans (below_drewN (Below.refl _ _) _ |>.mono HB.out.size))
  have H2 := Lib.hid (H.out.below (below_drewN (Below.refl w0.heap.size w0) nq))
  have HCD2 : Hid (∀ i (hi : i < d.length), (w0.drewN nq).cell? ⟨w.heap.size, i, none⟩ = some (.int .u8 d[i].toNat)) := Lib.hid (fun i hi => by rw [World.cell?_drewN]; exact HCD.out i hi)
  have f0 : (w0.drewN nq).cell? ⟨rt, 0, none⟩ = some (.slice (some ⟨rl, 0, none⟩) M rc) := by rw [World.cell?_drewN]; assumption
  clear q1 q2 c1' H HB HCD
  generalize w0.drewN nq = w1 at HB2 H2 HCD2 f0 ⊢
  go_loopw [12, 11] (fun i v wr => ∃ j n : Nat, ∃ x : Int, j ≤ 8 ∧ x = (j : Int) - 1 ∧ i = .int .i64 x ∧ v = .int .u64 n ∧ Hid (n = hiN 8 d (8 - j)) ∧ wr = w1) (fun i _ _ => (intOf i + 1).toNat)
  case atStart => exact ⟨8, 0, _, Nat.le_refl _, rfl, rfl, rfl, Lib.hid rfl, rfl⟩
  case round =>
    obtain ⟨j, n2, x, hj, hx, rfl, rfl, HN, rfl⟩ := hrel
    cases j with
    | zero =>
      obtain rfl : x = -1 := by omega
      have d0 : decide ((0 : Int) ≤ -1) = false := rfl
      clear hx
      obtain ⟨_, cur2, e2, hg2, _, _, _, _, hcell2⟩ := H2.out.at (by omega)
      cases e2
      have c2 : wr.cell? ⟨rl, i * 7 + 2, none⟩ = some (.bool L[i].in_) := hcell2 i hi 2 (by decide)
      have c3 : wr.cell? ⟨rl, i * 7 + 3, none⟩ = some (.int .u64 L[i].tok.toNat) := hcell2 i hi 3 (by decide)
      have c2f : wr.frozen? ⟨rl, i * 7 + 2, none⟩ = false := by simp [World.frozen?, hg2]
      have c3f : wr.frozen? ⟨rl, i * 7 + 3, none⟩ = false := by simp [World.frozen?, hg2]
      have hne : ¬ rl = rt := fun e => by
        have hc := H2.out.cells
        rw [← e, hg2] at hc
        have := (Obj.cells.inj (Option.some.inj hc)).2.1
        revert this; decide
      have hne2 : ¬ rt = rl := fun e => hne e.symm
      have hend : ∀ v : UInt64, v = tok d → Touch (RoS (some ⟨rl, 0, none⟩)) w ((wr.setCell ⟨rl, i * 7 + 2, none⟩ (.bool true)).setCell ⟨rl, i * 7 + 3, none⟩ (.int .u64 v.toNat)) ∧ ∃ L', IsRT ((wr.setCell ⟨rl, i * 7 + 2, none⟩ (.bool true)).setCell ⟨rl, i * 7 + 3, none⟩ (.int .u64 v.toNat)) B rt (some ⟨rl, 0, none⟩) rc L' ∧ Cor { T with tokens := fun j => if j = k then some (tok d) else T.tokens j } L' n := fun v hv => by
        obtain ⟨t1, r1⟩ := H2.out.put i hi 2 (by decide) (.bool true) { L[i] with in_ := true } rfl (show One.ok wr B L[i] from H2.out.ok _ (List.getElem_mem hi))
        have hi2 : i < (L.set i { L[i] with in_ := true }).length := by simpa using hi
        obtain ⟨t2, r2⟩ := r1.put i hi2 3 (by decide) (.int .u64 v.toNat) { L[i] with in_ := true, tok := v } (by rw [List.getElem_set_self]; rfl) (by
          have := r1.ok _ (List.getElem_mem hi2)
          rw [List.getElem_set_self] at this
          exact this)
        refine ⟨((Touch.of_below HB2.out).trans (t1.weaken (fun k _ hk => by unfold RoS; rw [hk]))).trans (t2.weaken (fun k _ hk => by unfold RoS; rw [hk])), _, r2, ?_⟩
        rw [List.set_set]
        have := HC.out.login i hi v
        rw [HX.out, hv] at this
        rw [hv]
        exact this
      have HE := Lib.hid hend
      have HV : Hid (((tok d).toNat : Int) = if n2 = 0 then 1 else (n2 : Int)) := Lib.hid (by rw [tok_val, HN.out, ← hiN_eq 8 d])
      clear hend hg2 hcell2
      by_cases hz : n2 = 0
      · subst hz
        have hv1 : ((tok d).toNat : Int) = 1 := by rw [HV.out]; rfl
        have HV1 := Lib.hid hv1
        clear hv1
        go_wp2_with fail
        go_ret2
        have := HE.out (tok d) rfl
        rw [HV1.out] at this
        exact ⟨by rw [HV1.out]; rfl, this⟩
      · have hzb : ((n2 : Int) == 0) = false := by rw [beq_eq_false_iff_ne]; omega
        have hv1 : ((tok d).toNat : Int) = (n2 : Int) := by rw [HV.out, if_neg hz]
        have HV1 := Lib.hid hv1
        clear hv1
        go_wp2_with fail
        go_ret2
        have := HE.out (tok d) rfl
        rw [HV1.out] at this
        exact ⟨by rw [HV1.out]; rfl, this⟩
    | succ j =>
      obtain rfl : x = (j : Int) := by omega
      clear hx
      have hjd : j < d.length := by omega
      have c1 := HCD2.out j hjd
      have hn2 : n2 < 72057594037927936 := by
        rw [HN.out]
        refine Nat.lt_of_lt_of_le (hiN_lt 8 d _) ?_
        exact Nat.le_trans (Nat.pow_le_pow_right (by decide) (show 8 - (j + 1) ≤ 7 by omega)) (by decide)
      have HOR := Lib.hid (or_step n2 d[j].toNat hn2 d[j].toNat_lt)
      go_wp2_with fail
      go_roundw
      case rel => exact ⟨j, n2 * 256 + d[j].toNat, _, by omega, rfl, rfl, congrArg (Value.int .u64) HOR.out, Lib.hid (by
        have e : 8 - j = (8 - (j + 1)) + 1 := by omega
        have e2 : 8 - 1 - (8 - (j + 1)) = j := by omega
        rw [e]
        show _ = hiN 8 d (8 - (j + 1)) * 256 + (d.getD (8 - 1 - (8 - (j + 1))) 0).toNat
        rw [← HN.out, e2]
        simp [hjd]), trivial⟩
      case measure => simp [intOf]

end Go.Proofs.YthadgnaaipdpaaaGreatDoor
