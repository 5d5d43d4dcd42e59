/- The document's sessions (salesroomref23): Seq and Copy; conditions: those typed. -/
import Derived.Test.YthadgnaaipdpaaaGreatDoorRSk
import Derived.Deep.RegionHeld3
namespace Go.Proofs.YthadgnaaipdpaaaGreatDoor
open Go.RowKit
set_option linter.unusedVariables false
set_option linter.unusedSimpArgs false
set_option maxRecDepth 100000

theorem ocells_one (L : List One) : ∀ v ∈ ocells L, v.oneCell' = true := by
  intro v hv
  unfold ocells at hv
  obtain ⟨x, _, hv⟩ := List.mem_flatMap.1 hv
  simp [One.cells] at hv
  rcases hv with rfl | rfl | rfl | rfl | rfl | rfl | rfl <;> rfl

set_option maxHeartbeats 2000000 in
theorem rtcopy_any (B rt : Nat) (ro : Option Addr) (rc : Nat) (L : List One) (w : World) (h : IsRT w B rt ro rc L) (hn : 0 < L.length) :
    Calls Tryz.prog 23 #[.pointer (some ⟨rt, 0, none⟩)] w fun e w' => ∃ ct co cc, e = .returned (.pointer (some ⟨ct, 0, none⟩)) ∧ Below w.heap.size w w' ∧ w.heap.size ≤ ct ∧ IsRT w' B ct co cc L := by
  have f0 := h.field
  have hfew := h.few
  have hB := h.le_heap
  obtain ⟨rl, cur, rfl, hg, hBl, g1, g2, g3, hcell⟩ := h.at hn
  have hat : At w (some ⟨rl, 0, none⟩) (ocells L) := At.of_cells fun j hj => by
    have hj' : j < L.length * 7 := by rwa [← flat_len One.cells 7 One.cells7 L]
    have h1 := hcell (j / 7) (by omega) (j % 7) (by omega)
    have h2 := rec_get One.cells 7 One.cells7 L (j / 7) (by omega) (j % 7) (by omega)
    rw [show j / 7 * 7 + j % 7 = j by omega] at h1 h2
    rw [Nat.zero_add, h1, ← h2]
    unfold ocells at hj ⊢
    rw [List.getElem?_eq_getElem hj]
  have hlb : Hid ((ocells L).length = L.length * 7) := Lib.hid (flat_len One.cells 7 One.cells7 L)
  have H := Lib.hid h
  clear h hg g3 hcell hBl
  go_enter Tryz.func23, Tryz.ntmps23
  go_wp2_with (first
    | (at_builtin; refine wpList_append_any rowOne rfl (.const (.slice none 0 0)) (.tmp 6) rfl B (.slice none 0 0) 0 [] rfl (World.ownsRow_nil _ _ _ _) (some ⟨rl, 0, none⟩) L.length rc (ocells L) rfl hlb.out hat (ocells_one L) (by unfold maxLen; omega) (by omega) hB ?_; intro b2 c2 w2 hown2 hg2 hat2; simp only [Nat.zero_add, List.nil_append] at hown2)
    | fail)
  have hB2 : Below w.heap.size w w2 := (Below.refl _ _).grown hg2 (Nat.le_refl _) (by simp [Value.ownBlock])
  have hB3 : Below w2.heap.size w2 (w2.alloc (.cells #[.slice b2 L.length c2] 77)) := (Below.refl _ _).alloc (Nat.le_refl _) _
  have hB4 := hB2.trans (hB3.mono hB2.size)
  have hT : IsRT (w2.alloc (.cells #[.slice b2 L.length c2] 77)) B w2.heap.size b2 c2 L :=
    ⟨Nat.le_trans hB hB2.size, heap_new _ _, owns_below hown2 hB3, fun x hx => (H.out.below hB4).ok x hx, hfew⟩
  have HT := Lib.hid hT
  have HB := Lib.hid hB4
  have hge := hB2.size
  clear hT hB4 hB3 hB2 hown2 hg2 hat2 hat
  go_wp2_with fail
  go_ret
  exact ⟨_, b2, c2, rfl, HB.out, hge, HT.out⟩

set_option maxHeartbeats 4000000 in
theorem rseq_t (B rt : Nat) (ro : Option Addr) (rc : Nat) (L : List One) (T : Tbl) (n : Nat) (k : UInt8) (s l : UInt32) (w : World) (h : IsRT w B rt ro rc L) (hc : Cor T L n) (hsh : ∀ x ∈ L, x.rep.length ≤ 1000000) :
    Calls Tryz.prog 16 #[.pointer (some ⟨rt, 0, none⟩), .int .u8 k.toNat, .int .u32 s.toNat, .int .u32 l.toNat] w fun e w' => ∃ a m c, e = .returned (.tuple #[.slice a m c, .int .i64 (T.seqE k s l)]) ∧ Below w.heap.size w w' ∧ IsB w' a m c (T.seqR k s l) := by
  have H := Lib.hid h
  have HC := Lib.hid hc
  cases hk : T.bidder k with
  | false =>
    have hE : T.seqE k s l = 9 := by unfold Tbl.seqE; rw [if_pos hk]
    have hR : T.seqR k s l = [] := by unfold Tbl.seqR; rw [hE, if_neg (by decide)]
    rw [hE, hR]
    have HK := Lib.hid hk
    clear hE hR hk h hc hsh
    go_enter Tryz.func16, Tryz.ntmps16
    go_wp2_with fail
    refine (rbidder_t B rt ro rc L T n k w H.out HC.out).mono ?_; rintro e w' ⟨rfl, rfl⟩; rw [HK.out]
    go_wp2_with fail
    go_ret2
    exact ⟨none, 0, 0, rfl, Below.refl _ _, IsB.nil _⟩
  | true =>
    obtain ⟨i, hi, hI, hw⟩ := hc.ofB hk
    obtain ⟨rl, cur, rfl, hg, hB, g1, g2, g3, hcell⟩ := h.at (by omega)
    have hfew := h.few
    have f0 := h.field
    have hkp := hc.kept i hi
    rw [hw] at hkp
    have hrep := (h.ok _ (List.getElem_mem hi)).2
    have hrs := hsh _ (List.getElem_mem hi)
    have d0 : w.drew.cell? ⟨rl, i * 7, none⟩ = some (.int .u8 L[i].who.toNat) := hcell i hi 0 (by decide)
    have d1 : w.drew.cell? ⟨rl, i * 7 + 1, none⟩ = some (.slice L[i].sa L[i].sec.length L[i].sc) := hcell i hi 1 (by decide)
    have d2 : w.drew.cell? ⟨rl, i * 7 + 2, none⟩ = some (.bool L[i].in_) := hcell i hi 2 (by decide)
    have d3 : w.drew.cell? ⟨rl, i * 7 + 3, none⟩ = some (.int .u64 L[i].tok.toNat) := hcell i hi 3 (by decide)
    have d4 : w.drew.cell? ⟨rl, i * 7 + 4, none⟩ = some (.bool L[i].kept) := hcell i hi 4 (by decide)
    have d5 : w.drew.cell? ⟨rl, i * 7 + 5, none⟩ = some (.int .u32 L[i].seq.toNat) := hcell i hi 5 (by decide)
    have d6 : w.drew.cell? ⟨rl, i * 7 + 6, none⟩ = some (.slice L[i].ra L[i].rep.length L[i].rc) := hcell i hi 6 (by decide)
    obtain ⟨M, hM⟩ : ∃ M, M = L.length := ⟨_, rfl⟩
    rw [← hM] at f0 hfew g1
    have f0d : w.drew.cell? ⟨rt, 0, none⟩ = some (.slice (some ⟨rl, 0, none⟩) M rc) := f0
    have hiM : i < M := by omega
    have HM := Lib.hid hM
    have HI := Lib.hid hI
    have HK := Lib.hid hk
    have HP := Lib.hid hrep
    have HKP := Lib.hid hkp
    have Hda := Lib.hid (h.below (((Below.refl w.heap.size w).alloc (Nat.le_refl _) (.cells #[.int .u8 0, .slice none 0 0, .bool false, .int .u64 0, .bool false, .int .u32 0, .slice none 0 0] 79)).drew))
    have Hd := Lib.hid (h.below ((Below.refl w.heap.size w).drew))
    clear h hc hg g3 hcell hI hw hM hsh hrep hkp
    generalize L[i] = x at d0 d1 d2 d3 d4 d5 d6 HP HKP hrs
    go_enter Tryz.func16, Tryz.ntmps16
    go_wp2_with fail
    refine (rbidder_t B rt _ rc L T n k w H.out HC.out).mono ?_; rintro e w' ⟨rfl, rfl⟩; rw [HK.out]
    go_wp2_with fail
    go_region_held3 (fun w' => w'.cell? ⟨rt, 0, none⟩ = some (.slice (some ⟨rl, 0, none⟩) M rc) ∧ w'.cell? ⟨rl, i * 7, none⟩ = some (.int .u8 x.who.toNat) ∧ w'.cell? ⟨rl, i * 7 + 1, none⟩ = some (.slice x.sa x.sec.length x.sc) ∧ w'.cell? ⟨rl, i * 7 + 2, none⟩ = some (.bool x.in_) ∧ w'.cell? ⟨rl, i * 7 + 3, none⟩ = some (.int .u64 x.tok.toNat) ∧ w'.cell? ⟨rl, i * 7 + 4, none⟩ = some (.bool x.kept) ∧ w'.cell? ⟨rl, i * 7 + 5, none⟩ = some (.int .u32 x.seq.toNat) ∧ w'.cell? ⟨rl, i * 7 + 6, none⟩ = some (.slice x.ra x.rep.length x.rc)) (first | with_reducible exact ⟨f0d, d0, d1, d2, d3, d4, d5, d6⟩ | exact ⟨cell_alloc f0 _, cell_alloc d0 _, cell_alloc d1 _, cell_alloc d2 _, cell_alloc d3 _, cell_alloc d4 _, cell_alloc d5 _, cell_alloc d6 _⟩) (first
      | (go_at_call 34; ((with_reducible refine (rof_t B rt _ rc L k w.drew Hd.out).mono ?_); rintro e w' ⟨rfl, rfl⟩; rw [HI.out]))
      | (go_at_call 34; ((with_reducible refine (rof_t B rt _ rc L k _ Hda.out).mono ?_); rintro e w' ⟨rfl, rfl⟩; rw [HI.out]))
      | fail)
    all_goals
      have hbe : Below w.heap.size w (w.alloc (.cells x.cells.toArray 79)).drew := ((Below.refl _ _).alloc (Nat.le_refl _) _).drew
      have hv : (w.alloc (.cells x.cells.toArray 79)).drew.heap[w.heap.size]? = some (.cells x.cells.toArray 79 (0, 0)) := heap_new w _
      have hcl : x.cells.toArray = #[.int .u8 x.who.toNat, .slice x.sa x.sec.length x.sc, .bool x.in_, .int .u64 x.tok.toNat, .bool x.kept, .int .u32 x.seq.toNat, .slice x.ra x.rep.length x.rc] := rfl
      rw [hcl] at hbe hv
      clear hcl
      generalize (w.alloc (.cells #[.int .u8 x.who.toNat, .slice x.sa x.sec.length x.sc, .bool x.in_, .int .u64 x.tok.toNat, .bool x.kept, .int .u32 x.seq.toNat, .slice x.ra x.rep.length x.rc] 79)).drew = w2 at hbe hv ⊢
      have HB2 := Lib.hid hbe
      have v4 : w2.cell? ⟨w.heap.size, 4, none⟩ = some (.bool x.kept) := by rw [cell_of_block hv]; rfl
      have v5 : w2.cell? ⟨w.heap.size, 5, none⟩ = some (.int .u32 x.seq.toNat) := by rw [cell_of_block hv]; rfl
      have v6 : w2.cell? ⟨w.heap.size, 6, none⟩ = some (.slice x.ra x.rep.length x.rc) := by rw [cell_of_block hv]; rfl
      have hi2 := Lib.hid (isB_of_owns (owns_below HP.out hbe) rfl)
      obtain ⟨hx, hhx⟩ : ∃ hx, hx = w.heap.size := ⟨_, rfl⟩
      have HHX := Lib.hid hhx
      rw [← hhx] at v4 v5 v6 ⊢
      clear hhx
      have hs32 := s.toNat_lt
      have hl32 := l.toNat_lt
      have e1 : IntKind.u64.wrap (s.toNat : Int) = (s.toNat : Int) := by rw [IntKind.wrap_u64]; omega
      have e2 : IntKind.u64.wrap (l.toNat : Int) = (l.toNat : Int) := by rw [IntKind.wrap_u64]; omega
      have e3 : IntKind.u64.wrap ((l.toNat : Int) + 1) = (l.toNat : Int) + 1 := by rw [IntKind.wrap_u64]; omega
      clear hbe hv d0 d1 d2 d3 d4 d5 d6 f0 f0d
      by_cases hA : s.toNat = l.toNat + 1
      · have hE : Hid (T.seqE k s l = 0 ∧ T.seqR k s l = []) := Lib.hid (by
          have hE : T.seqE k s l = 0 := by unfold Tbl.seqE; rw [if_neg (by rw [HK.out]; decide), if_pos hA]
          exact ⟨hE, by unfold Tbl.seqR; rw [hE, if_neg (by decide)]⟩)
        have hb : ((s.toNat : Int) == (l.toNat : Int) + 1) = true := by rw [beq_iff_eq]; omega
        clear hA
        go_wp2_with fail
        go_ret2
        rw [hE.out.1, hE.out.2]
        exact ⟨none, 0, 0, rfl, HB2.out, IsB.nil _⟩
      · have hb : ((s.toNat : Int) == (l.toNat : Int) + 1) = false := by rw [beq_eq_false_iff_ne]; omega
        by_cases hS : s = l ∧ s ≠ 0
        · obtain ⟨rfl, hs0⟩ := hS
          have hE : T.seqE k s s = 11 := by unfold Tbl.seqE; rw [if_neg (by rw [HK.out]; decide), if_neg hA, if_pos ⟨rfl, hs0⟩]
          have hb1 : ((s.toNat : Int) == (s.toNat : Int)) = true := by simp
          have hb2 : ((s.toNat : Int) != 0) = true := by rw [bne_iff_ne]; intro e; exact hs0 (UInt32.toNat_inj.1 (by simp; omega))
          cases hxk : x.kept with
          | false =>
            have hR : Hid (T.seqE k s s = 11 ∧ T.seqR k s s = []) := Lib.hid ⟨hE, by unfold Tbl.seqR; rw [if_pos hE, HKP.out, hxk]; rfl⟩
            rw [hxk] at v4
            clear hA hs0 hE hxk
            go_wp2_with fail
            go_ret2
            rw [hR.out.1, hR.out.2]
            exact ⟨none, 0, 0, rfl, HB2.out, IsB.nil _⟩
          | true =>
            by_cases hq : x.seq = s
            · have hR : Hid (T.seqE k s s = 11 ∧ T.seqR k s s = x.rep) := Lib.hid ⟨hE, by unfold Tbl.seqR; rw [if_pos hE, HKP.out, hxk]; simp [hq]⟩
              have hb3 : ((x.seq.toNat : Int) == (s.toNat : Int)) = true := by rw [hq]; simp
              rw [hxk] at v4
              have hat := hi2.out.at
              have hlb : Hid ((bcells x.rep).length = x.rep.length * 1) := Lib.hid (by rw [bcells_length]; omega)
              have hsz : Hid (w.heap.size ≤ w2.heap.size) := Lib.hid HB2.out.size
              clear hA hs0 hE hxk hq
              go_wp2_with (first
                | (at_builtin; refine wpList_append_any rowU8 rfl (.const (.slice none 0 0)) (.tmp 46) rfl w.heap.size (.slice none 0 0) 0 [] rfl (World.ownsRow_nil _ _ _ _) x.ra x.rep.length x.rc (bcells x.rep) rfl hlb.out hat (bcells_one x.rep) (by unfold maxLen; omega) (by omega) hsz.out ?_; intro b2 c2 w3 hown2 hg2 hat2; simp only [Nat.zero_add, List.nil_append] at hown2)
                | fail)
              have HB3 : Hid (Below w.heap.size w w3) := Lib.hid (HB2.out.grown hg2 hsz.out (by simp [Value.ownBlock]))
              have HI3 := Lib.hid (isB_of_owns hown2 rfl)
              clear hown2 hg2 hat2 hat hlb
              go_wp2_with fail
              go_ret2
              rw [hR.out.1, hR.out.2]
              exact ⟨b2, _, c2, rfl, HB3.out, HI3.out⟩
            · have hR : Hid (T.seqE k s s = 11 ∧ T.seqR k s s = []) := Lib.hid ⟨hE, by unfold Tbl.seqR; rw [if_pos hE, HKP.out, hxk]; simp [hq]⟩
              have hb3 : ((x.seq.toNat : Int) == (s.toNat : Int)) = false := by rw [beq_eq_false_iff_ne]; intro e; exact hq (UInt32.toNat_inj.1 (by omega))
              rw [hxk] at v4
              clear hA hs0 hE hxk hq
              go_wp2_with fail
              go_ret2
              rw [hR.out.1, hR.out.2]
              exact ⟨none, 0, 0, rfl, HB2.out, IsB.nil _⟩
        · have hE : Hid (T.seqE k s l = 10 ∧ T.seqR k s l = []) := Lib.hid (by
            have hE : T.seqE k s l = 10 := by unfold Tbl.seqE; rw [if_neg (by rw [HK.out]; decide), if_neg hA, if_neg hS]
            exact ⟨hE, by unfold Tbl.seqR; rw [hE, if_neg (by decide)]⟩)
          by_cases hsl : s = l
          · have hs0 : s = 0 := by
              by_cases h0 : s = 0
              · exact h0
              · exact absurd ⟨hsl, h0⟩ hS
            have hb1 : ((s.toNat : Int) == (l.toNat : Int)) = true := by rw [hsl]; simp
            have hb2 : ((s.toNat : Int) != 0) = false := by rw [hs0]; rfl
            clear hA hS hsl hs0
            go_wp2_with fail
            go_ret2
            rw [hE.out.1, hE.out.2]
            exact ⟨none, 0, 0, rfl, HB2.out, IsB.nil _⟩
          · have hb1 : ((s.toNat : Int) == (l.toNat : Int)) = false := by rw [beq_eq_false_iff_ne]; intro e; exact hsl (UInt32.toNat_inj.1 (by omega))
            clear hA hS hsl
            go_wp2_with fail
            go_ret2
            rw [hE.out.1, hE.out.2]
            exact ⟨none, 0, 0, rfl, HB2.out, IsB.nil _⟩

end Go.Proofs.YthadgnaaipdpaaaGreatDoor
