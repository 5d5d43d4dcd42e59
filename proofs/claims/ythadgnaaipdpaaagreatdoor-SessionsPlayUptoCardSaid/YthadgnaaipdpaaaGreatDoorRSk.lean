/- The document's sessions (salesroomref23): Keep, Seq, Copy; conditions: those typed. -/
import Derived.Test.YthadgnaaipdpaaaGreatDoorRSl
import Derived.Deep.RegionLaw
namespace Go.Proofs.YthadgnaaipdpaaaGreatDoor
open Go.RowKit
set_option linter.unusedVariables false
set_option linter.unusedSimpArgs false
set_option maxRecDepth 100000

theorem Cor.keeps {T : Tbl} {L : List One} {n : Nat} (h : Cor T L n) (i : Nat) (hi : i < L.length) (s : UInt32) (r : List UInt8) (ra : Option Addr) (rc : Nat) (hr : r.length ≤ 1000000) : Cor { T with kept := fun j => if j = L[i].who then some (s, r) else T.kept j } (L.set i { L[i] with kept := true, seq := s, rep := r, ra := ra, rc := rc }) n := by
  have hw : ∀ j (hj : j < (L.set i { L[i] with kept := true, seq := s, rep := r, ra := ra, rc := rc }).length) (hj' : j < L.length), (L.set i { L[i] with kept := true, seq := s, rep := r, ra := ra, rc := rc })[j].who = L[j].who ∧ (L.set i { L[i] with kept := true, seq := s, rep := r, ra := ra, rc := rc })[j].sec = L[j].sec ∧ (L.set i { L[i] with kept := true, seq := s, rep := r, ra := ra, rc := rc })[j].in_ = L[j].in_ ∧ (L.set i { L[i] with kept := true, seq := s, rep := r, ra := ra, rc := rc })[j].tok = L[j].tok := fun j hj hj' => by
    rw [List.getElem_set]
    by_cases e : i = j
    · subst e; rw [if_pos rfl]; exact ⟨rfl, rfl, rfl, rfl⟩
    · rw [if_neg e]; exact ⟨rfl, rfl, rfl, rfl⟩
  refine ⟨h.n1, h.n8, by simpa using h.len, fun j hj => ?_, fun j hj => ?_, fun j hj => ?_, fun j hj => ?_, fun k hk => ?_, fun j hj => by
    rw [List.getElem_set]
    by_cases e : i = j
    · rw [if_pos e]; exact hr
    · rw [if_neg e]; exact h.short j (by simpa using hj)⟩
  · have hj' : j < L.length := by simpa using hj
    rw [(hw j hj hj').1]; exact h.whos j hj'
  · have hj' : j < L.length := by simpa using hj
    rw [(hw j hj hj').1, (hw j hj hj').2.1]; exact h.sec j hj'
  · have hj' : j < L.length := by simpa using hj
    rw [(hw j hj hj').1, (hw j hj hj').2.2.1, (hw j hj hj').2.2.2]; exact h.tok j hj'
  · have hj' : j < L.length := by simpa using hj
    rw [(hw j hj hj').1]
    dsimp only
    rw [List.getElem_set]
    by_cases e : i = j
    · subst e; rw [if_pos rfl, if_pos rfl]; rfl
    · rw [if_neg e, if_neg (fun e2 => e (h.inj hi hj' e2.symm))]; exact h.kept j hj'
  · have hk' : ∀ j (hj : j < L.length), L[j].who ≠ k := fun j hj => by
      have := hk j (by simpa using hj)
      rwa [(hw j (by simpa using hj) hj).1] at this
    obtain ⟨a1, a2, a3⟩ := h.no k hk'
    refine ⟨a1, a2, ?_⟩
    dsimp only
    rw [if_neg (fun e => hk' i hi e.symm)]; exact a3

theorem IsRT.le_heap {w : World} {B rt : Nat} {ro : Option Addr} {rc : Nat} {L : List One} (h : IsRT w B rt ro rc L) : B ≤ w.heap.size := Nat.le_trans h.le (Nat.le_of_lt (lt_of_heap h.cells))
theorem rkeep_no (B rt : Nat) (ro : Option Addr) (rc : Nat) (L : List One) (T : Tbl) (n : Nat) (k : UInt8) (s : UInt32) (a : Option Addr) (m c : Nat) (w : World) (h : IsRT w B rt ro rc L) (hc : Cor T L n) (hk : T.bidder k = false) :
    Calls Tryz.prog 20 #[.pointer (some ⟨rt, 0, none⟩), .int .u8 k.toNat, .int .u32 s.toNat, .slice a m c] w fun e w' => e = .returned (.int .i64 9) ∧ w = w' := by
  have H := Lib.hid h
  have HC := Lib.hid hc
  have HK := Lib.hid hk
  clear h hc hk
  go_enter Tryz.func20, Tryz.ntmps20
  go_wp2_with fail
  refine (rbidder_t B rt ro rc L T n k w H.out HC.out).mono ?_; rintro e w' ⟨rfl, rfl⟩; rw [HK.out]
  go_wp2_with fail
  go_ret
  exact ⟨rfl, rfl⟩

set_option maxHeartbeats 4000000 in
theorem rkeep_yes (B rt : Nat) (ro : Option Addr) (rc : Nat) (L : List One) (T : Tbl) (n : Nat) (k : UInt8) (s : UInt32) (a : Option Addr) (m c : Nat) (l : List UInt8) (w : World) (h : IsRT w B rt ro rc L) (hc : Cor T L n) (hl : IsB w a m c l) (hlr : ∀ b off, a = some ⟨b, off, none⟩ → l ≠ [] → ¬ RoS ro b) (hlm : l.length ≤ 1000000) (hk : T.bidder k = true) :
    Calls Tryz.prog 20 #[.pointer (some ⟨rt, 0, none⟩), .int .u8 k.toNat, .int .u32 s.toNat, .slice a m c] w fun e w' => e = .returned (.int .i64 0) ∧ Touch (RoS ro) w w' ∧ ∃ L', IsRT w' B rt ro rc L' ∧ Cor { T with kept := fun j => if j = k then some (s, l) else T.kept j } L' n := by
  obtain rfl := hl.1
  obtain ⟨i, hi, hI, hw⟩ := hc.ofB hk
  obtain ⟨rl, cur, rfl, hg, hB, g1, g2, g3, hcell⟩ := h.at (by omega)
  have hfew := h.few
  have f0 := h.field
  have hne : ¬ rl = rt := fun e => by
    have hc := h.cells
    rw [← e, hg] at hc
    have := (Obj.cells.inj (Option.some.inj hc)).2.1
    revert this; decide
  have hne2 : ¬ rt = rl := fun e => hne e.symm
  have c4 : w.cell? ⟨rl, i * 7 + 4, none⟩ = some (.bool L[i].kept) := hcell i hi 4 (by decide)
  have c5 : w.cell? ⟨rl, i * 7 + 5, none⟩ = some (.int .u32 L[i].seq.toNat) := hcell i hi 5 (by decide)
  have c4f : w.frozen? ⟨rl, i * 7 + 4, none⟩ = false := by simp [World.frozen?, hg]
  have c5f : w.frozen? ⟨rl, i * 7 + 5, none⟩ = false := by simp [World.frozen?, hg]
  obtain ⟨t1, r1⟩ := h.put i hi 4 (by decide) (.bool true) { L[i] with kept := true } rfl (show One.ok w B L[i] from h.ok _ (List.getElem_mem hi))
  have hi2 : i < (L.set i { L[i] with kept := true }).length := by simpa using hi
  obtain ⟨t2, r2⟩ := r1.put i hi2 5 (by decide) (.int .u32 s.toNat) { L[i] with kept := true, seq := s } (by rw [List.getElem_set_self]; rfl) (by
    have := r1.ok _ (List.getElem_mem hi2)
    rw [List.getElem_set_self] at this
    exact this)
  rw [List.set_set] at r2
  have t12 : Touch (RoS (some ⟨rl, 0, none⟩)) w ((w.setCell ⟨rl, i * 7 + 4, none⟩ (.bool true)).setCell ⟨rl, i * 7 + 5, none⟩ (.int .u32 s.toNat)) := (t1.weaken (fun k _ hk => by unfold RoS; rw [hk])).trans (t2.weaken (fun k _ hk => by unfold RoS; rw [hk]))
  have hl2 := hl.touch t12 hlr
  have H := Lib.hid h
  have HC := Lib.hid hc
  have HK := Lib.hid hk
  have HI := Lib.hid hI
  have HX := Lib.hid hw
  have HT := Lib.hid t12
  have HR := Lib.hid r2
  have HL := Lib.hid hl2
  obtain ⟨M, hM⟩ : ∃ M, M = L.length := ⟨_, rfl⟩
  rw [← hM] at f0 hfew g1
  have hiM : i < M := by omega
  have HM := Lib.hid hM
  clear h hc hk hI hw t12 r2 hl2 hl hlr hM t1 r1 t2 hi2 hcell hg g3
  go_enter Tryz.func20, Tryz.ntmps20
  go_wp2_with fail
  refine (rbidder_t B rt _ rc L T n k w H.out HC.out).mono ?_; rintro e w' ⟨rfl, rfl⟩; rw [HK.out]
  go_wp2_with fail
  refine (rof_t B rt _ rc L k w H.out).mono ?_; rintro e w' ⟨rfl, rfl⟩; rw [HI.out]
  go_wp2_with fail
  generalize (w.setCell ⟨rl, i * 7 + 4, none⟩ (.bool true)).setCell ⟨rl, i * 7 + 5, none⟩ (.int .u32 s.toNat) = w2 at HT HR HL ⊢
  clear f0 c4 c5 c4f c5f
  have hi3 : i < (L.set i { L[i] with kept := true, seq := s }).length := by simpa using hi
  obtain ⟨_, cur2, e2, hg2, _, _, _, _, hcell2⟩ := HR.out.at (Nat.lt_of_le_of_lt (Nat.zero_le _) hi3)
  cases e2
  have f0 : w2.cell? ⟨rt, 0, none⟩ = some (.slice (some ⟨rl, 0, none⟩) M rc) := by
    have := HR.out.field
    rwa [List.length_set, ← HM.out] at this
  have f0d : w2.drew.cell? ⟨rt, 0, none⟩ = some (.slice (some ⟨rl, 0, none⟩) M rc) := f0
  have c6 := hcell2 i hi3 6 (by decide)
  rw [List.getElem_set_self] at c6
  have c6' : w2.cell? ⟨rl, i * 7 + 6, none⟩ = some (.slice L[i].ra L[i].rep.length L[i].rc) := c6
  have c6f : w2.frozen? ⟨rl, i * 7 + 6, none⟩ = false := by simp [World.frozen?, hg2]
  have HG2 := Lib.hid hg2
  have hat := Lib.hid HL.out.at
  have hatd := Lib.hid (HL.out.below ((Below.refl w2.heap.size w2).drew)).at
  have hlb : Hid ((bcells l).length = l.length * 1) := Lib.hid (by rw [bcells_length]; omega)
  have HBS : Hid (B ≤ w2.heap.size) := Lib.hid HR.out.le_heap
  have HF0 := Lib.hid f0
  have HC6 := Lib.hid c6'
  clear hcell2 c6 hg2
  go_region_law (first
    | (refine step_append_any rowU8 rfl (.const (.slice none 0 0)) (.tmp 37) (by rfl) B (.slice none 0 0) 0 [] (by simp [Act.eval]) (World.ownsRow_nil _ _ _ _) a l.length c (bcells l) (by simp [Act.eval, Act.put]) hlb.out (by first | exact hat.out | exact hatd.out) (bcells_one l) (by unfold maxLen; omega) (by omega) (Nat.le_trans HBS.out (by simp)) ?_; intro b8 c8 w8 hown8 hg8 hat8; simp only [Nat.zero_add, List.nil_append] at hown8; have hB8 : Below w2.heap.size w2 w8 := (by first | exact (Below.refl _ _).grown hg8 (Nat.le_refl _) (by simp [Value.ownBlock]) | exact ((Below.refl w2.heap.size w2).drew).grown hg8 (by simp) (by simp [Value.ownBlock])); have q0 : w8.cell? ⟨rt, 0, none⟩ = some (.slice (some ⟨rl, 0, none⟩) M rc) := cell_later hB8 HF0.out; have q6 : w8.cell? ⟨rl, i * 7 + 6, none⟩ = some (.slice L[i].ra L[i].rep.length L[i].rc) := cell_later hB8 HC6.out; have q6f : w8.frozen? ⟨rl, i * 7 + 6, none⟩ = false := (by simp [World.frozen?, below_heap hB8 HG2.out (lt_of_heap HG2.out)]))
    | fail)
  all_goals
    have E : Touch (RoS (some ⟨rl, 0, none⟩)) w (w8.setCell ⟨rl, i * 7 + 6, none⟩ (.slice b8 l.length c8)) ∧ ∃ L', IsRT (w8.setCell ⟨rl, i * 7 + 6, none⟩ (.slice b8 l.length c8)) B rt (some ⟨rl, 0, none⟩) rc L' ∧ Cor { T with kept := fun j => if j = k then some (s, l) else T.kept j } L' n := by
      have r8 := HR.out.below hB8
      have ho := r8.ok _ (List.getElem_mem hi3)
      rw [List.getElem_set_self] at ho
      obtain ⟨t3, r3⟩ := r8.put i hi3 6 (by decide) (.slice b8 l.length c8) { L[i] with kept := true, seq := s, rep := l, ra := b8, rc := c8 } (by rw [List.getElem_set_self]; rfl) ⟨ho.1, hown8⟩
      rw [List.set_set] at r3
      have := HC.out.keeps i hi s l b8 c8 hlm
      rw [HX.out] at this
      exact ⟨(HT.out.trans (Touch.of_below hB8)).trans (t3.weaken (fun k _ hk => by unfold RoS; rw [hk])), _, r3, this⟩
    have HE := Lib.hid E
    clear E hown8 hg8 hat8
    go_wp2_with fail
    go_ret
    exact ⟨rfl, HE.out⟩

end Go.Proofs.YthadgnaaipdpaaaGreatDoor
