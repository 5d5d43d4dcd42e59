/- The statement DisksLast: what it returns; conditions: those typed. -/
import Derived.Test.YtolnhjjggjbckaaDisksAlive
import Derived.Test.YtolnhjjggjbckaaDisksArgs
import Derived.StillTailTactics
namespace Go.Proofs.Ytolnhjjggjbckaa
open Go.RowKit
set_option linter.unusedVariables false
set_option linter.unusedSimpArgs false

theorem rem4 (x : UInt8) : (wrap64 (x.toNat : Int)).tmod 4 = ((x.toNat % 4 : Nat) : Int) := by
  have := x.toNat_lt
  have h1 : wrap64 (x.toNat : Int) = x.toNat := by unfold wrap64; omega
  rw [h1, Int.tmod_eq_emod_of_nonneg (by omega)]; omega
theorem sub64 (l : List UInt8) (h : l.length ≤ 64) : IntKind.i64.wrap (64 - (l.length : Int)) = ((64 - l.length : Nat) : Int) := by rw [IntKind.wrap_i64]; omega
theorem Dsk.write_free (D : Dsk) (n : Int) (b : List UInt8) (hl : D.left = -1) (hb : D.blown = false) : (D.write n b).2.left = -1 ∧ (D.write n b).2.blown = false ∧ D.writes ≤ (D.write n b).2.writes ∧ (D.write n b).2.writes ≤ D.writes + 1 := by
  unfold Dsk.write
  split
  · exact ⟨hl, hb, Int.le_refl _, by dsimp only; omega⟩
  · split
    · rename_i h; rw [hb, hl] at h; simp at h
    · exact ⟨by simp [hl], hb, by dsimp only; omega, Int.le_refl _⟩
theorem Dsk.write_good (D : Dsk) (n : Nat) (b : List UInt8) (hl : D.left ≠ 0) (hb : D.blown = false) (hn : n < D.secs.length) (h64 : b.length ≤ 64) : D.write n b = (0, { D with secs := D.secs.set n (padS b), left := if 0 < D.left then D.left - 1 else D.left, writes := D.writes + 1 }) := by
  unfold Dsk.write
  rw [if_neg (by omega), if_neg (by rw [hb]; simpa using hl)]; rfl

/-- The arguments as they stand: the list, and the other write, in block z. -/
structure ArgSt (W : World) (z : Nat) (a : Option Addr) (c : Nat) (L : List (UInt8 × List UInt8)) (xn : UInt8) (ax : Option Addr) (cx : Nat) (xb : List UInt8) : Prop where
  lt : z < W.heap.size
  n : W.cell? ⟨z, 0, none⟩ = some (.int .u8 xn.toNat)
  b : W.cell? ⟨z, 1, none⟩ = some (.slice ax xb.length cx)
  ws : IsWs W a L.length c L
  xb : IsB W ax xb.length cx xb
theorem ArgSt.below {W W' : World} {z : Nat} {a : Option Addr} {c : Nat} {L : List (UInt8 × List UInt8)} {xn : UInt8} {ax : Option Addr} {cx : Nat} {xb : List UInt8} (h : ArgSt W z a c L xn ax cx xb) (hb : Below W.heap.size W W') : ArgSt W' z a c L xn ax cx xb :=
  ⟨Nat.lt_of_lt_of_le h.lt hb.size, (hb.cell (p := ⟨z, _, none⟩) h.lt).trans h.n, (hb.cell (p := ⟨z, _, none⟩) h.lt).trans h.b, h.ws.below hb, h.xb.below hb⟩
theorem ArgSt.start {w : World} {a : Option Addr} {c : Nat} {L : List (UInt8 × List UInt8)} {xn : UInt8} {ax : Option Addr} {cx : Nat} {xb : List UInt8} (hL : IsWs w a L.length c L) (hx : IsB w ax xb.length cx xb) (e : TypeId) :
    ArgSt (w.alloc (.cells #[.int .u8 xn.toNat, .slice ax xb.length cx] e)) w.heap.size a c L xn ax cx xb := by
  have hb : Below w.heap.size w (w.alloc (.cells #[.int .u8 xn.toNat, .slice ax xb.length cx] e)) := (Below.refl _ _).alloc (Nat.le_refl _) _
  refine ⟨by simp, ?_, ?_, hL.below hb, hx.below hb⟩
  · rw [cell_of_block (heap_new _ _)]; rfl
  · rw [cell_of_block (heap_new _ _)]; rfl

set_option maxRecDepth 100000 in
set_option maxHeartbeats 4000000 in
theorem dlast_main (a : Option Addr) (m c : Nat) (L : List (UInt8 × List UInt8)) (xn : UInt8) (ax : Option Addr) (mx cx : Nat) (xb : List UInt8) (w : World) (hL : IsWs w a m c L) (hx : IsB w ax mx cx xb) (hm : L.length ≤ 100) (hxb : xb.length ≤ 64) :
    Calls Try.prog 5 #[.slice a m c, .agg #[.int .u8 xn.toNat, .slice ax mx cx]] w fun e w' => e = .returned (.bool true) ∧ Below w.heap.size w w' := by
  obtain rfl := hL.1
  obtain rfl := hx.1
  have hlt1 : decide ((100 : Int) < (L.length : Int)) = false := by simp; omega
  have hlt2 : decide ((64 : Int) < (xb.length : Int)) = false := by simp; omega
  go_enter Try.func5, Try.ntmps5
  go_wp2_with fail
  have st0 := ArgSt.start (xn := xn) hL hx 41
  have hb0 : Below w.heap.size w (w.alloc (.cells #[.int .u8 xn.toNat, .slice ax xb.length cx] 41)) := (Below.refl _ _).alloc (Nat.le_refl _) _
  generalize w.alloc (.cells #[.int .u8 xn.toNat, .slice ax xb.length cx] 41) = w0 at st0 hb0 ⊢
  clear hL hx
  have hz := hb0.size
  have hzl := st0.lt
  refine (new_good 4 w0 (by decide) (by decide)).mono ?_; rintro e w1 ⟨bd, bl, rfl, hb1, g1, g2, hd1⟩
  have hs1 := hb1.size
  go_wp2_with fail
  refine (alive_any w1).mono ?_; rintro e w2 ⟨rfl, hb2⟩
  have hs2 := hb2.size
  have hB2 : Below w0.heap.size w0 w2 := hb1.trans (hb2.mono hs1)
  have hd2 := hd1.touch (Touch.of_below (S := fun _ => False) hb2) id id
  have st2 := st0.below hB2
  have f2 := st2.n
  have f3 := st2.b
  clear hb1 hb2 hd1
  go_wp2_with fail
  go_loopw [7] (fun i wr => ∃ (k : Nat) (D : Dsk), k ≤ L.length ∧ i = .int .i64 k ∧ IsDisk wr bd bl D ∧ D.secs.length = 4 ∧ D.left = -1 ∧ D.blown = false ∧ 0 ≤ D.writes ∧ D.writes ≤ k ∧ Below w0.heap.size w0 wr) (fun i _ => L.length - (intOf i).toNat)
  case atStart => exact ⟨0, _, Nat.zero_le _, rfl, hd2, List.length_replicate, rfl, rfl, Int.le_refl _, Int.le_refl _, hB2⟩
  case round =>
    obtain ⟨k, D, hk, rfl, hd, h4, hle, hbl, hw0, hwk, hbel⟩ := hrel
    have hsz := hbel.size
    have st := st0.below hbel
    by_cases hlt : k < L.length
    · obtain ⟨_, h2, _, h3 | ⟨b, off, rfl, hblt, hc⟩⟩ := st.ws
      · rw [h3] at hlt; simp at hlt
      obtain ⟨e1, ai, ni, ci, e2, hB⟩ := hc k hlt
      have e1' : wr.drew.cell? ⟨b, off + k * 2, none⟩ = some (.int .u8 L[k].1.toNat) := e1
      have e2' : wr.drew.cell? ⟨b, off + k * 2 + 1, none⟩ = some (.slice ai ni ci) := e2
      have hbd : Below wr.heap.size wr wr.drew := (Below.refl _ _).drew
      have hdd := hd.touch (Touch.of_below (S := fun _ => False) hbd) id id
      have hBB := hB.below hbd
      clear st2 f2 f3 hd2 hc
      go_wp2_with fail
      go_still_tail 13, (by kernel_rfl)
      change wpList _ _ _ _ _ wr.drew
      generalize wr.drew = w2 at e1' e2' hbd hdd hBB ⊢
      go_wp2_with fail
      rw [rem4]
      refine (write_any bd bl D _ _ _ _ _ _ hdd hBB ⟨hw0, by omega, by omega⟩).mono ?_; rintro e w3 ⟨rfl, ht3, hd3⟩
      obtain ⟨j1, j2, j3, j4⟩ := D.write_free ((L[k].1.toNat % 4 : Nat) : Int) L[k].2 hle hbl
      have hb3 : Below w0.heap.size w0 w3 := (hbel.trans (hbd.mono hsz)).trans (ht3.below (Nat.le_trans hsz hbd.size) (fun k hk => by omega))
      go_wp2_with fail
      go_roundw
      case rel => exact ⟨k + 1, _, by omega, by go_num, hd3, by rw [Dsk.write_secs_length, h4], j1, j2, by omega, by omega, hb3⟩
      case measure => simp [intOf]; omega
    · have hkk : k = L.length := by omega
      subst hkk
      clear st2 f2 f3 hd2
      have hdl := hd.lt
      go_wp2_with fail
      refine (all_disk bd bl D wr hd).mono ?_; rintro e w3 ⟨oa, oc, rfl, hb3, was⟩
      rw [h4] at was
      have hs3 := hb3.size
      have st3 := st.below hb3
      have f3 := st3.n
      have f4 := st3.b
      have hd3 := hd.touch (Touch.of_below (S := fun _ => False) hb3) id id
      go_wp2_with fail
      rw [rem4]
      have hwr := D.write_good (xn.toNat % 4) xb (by omega) hbl (by omega) hxb
      refine (write_any bd bl D _ _ _ _ _ _ hd3 st3.xb ⟨hw0, by omega, by omega⟩).mono ?_; rintro e w4 ⟨rfl, ht4, hd4⟩
      rw [hwr] at hd4 ⊢
      go_wp2_with fail
      have hs4 := ht4.size
      refine (all_disk bd bl _ w4 hd4).mono ?_; rintro e w5 ⟨na, nc, rfl, hb5, now⟩
      have was4 := was.touch ht4 (fun k hk => by omega)
      have was5 := was4.below hb5
      have hs5 := hb5.size
      have hB5 : Below w0.heap.size w0 w5 := ((hbel.trans (hb3.mono hsz)).trans (ht4.below (Nat.le_trans hsz hs3) (fun k hk => by omega))).trans (hb5.mono (by omega))
      clear hd3 hd4 was was4 hb3 ht4 hb5 f3 f4 st3 st hd hbel
      have WAS := Lib.hid was5
      have NOW := Lib.hid now
      have ST5 := Lib.hid (st0.below hB5)
      clear was5 now st0
      go_wp2_with fail
      obtain ⟨N4, hN4⟩ : ∃ n : Nat, n = 4 := ⟨4, rfl⟩
      have HN := Lib.hid hN4
      clear hN4
      go_loopw [11] (fun i wr => ∃ (k : Nat), k ≤ 4 ∧ i = .int .i64 k ∧ Below w5.heap.size w5 wr) (fun i _ => N4 - (intOf i).toNat)
      case atStart => exact ⟨0, Nat.zero_le _, rfl, Below.refl _ _⟩
      case round =>
        obtain ⟨k, hk, rfl, hb6⟩ := hrel
        have hs6 := hb6.size
        have st6 := ST5.out.below hb6
        have f6 := st6.n
        have f7 := st6.b
        by_cases hk4 : k < 4
        · by_cases hkn : k = xn.toNat % 4
          · have hne : ((k : Int) != (wrap64 (xn.toNat : Int)).tmod 4) = false := by rw [rem4, hkn]; simp
            have HK := Lib.hid hkn
            clear hkn
            obtain ⟨n1, n2, n3, n4 | ⟨b2, o2, rfl, _, hl2, hc2⟩⟩ := NOW.out.below hb6
            · have := congrArg List.length n4; simp at this; rw [this] at h4; simp at h4
            obtain ⟨u2, c2, a2, m2, q2, rfl, r2, _⟩ := hc2 k (by simp; omega)
            have R2 := Lib.hid r2
            have ST6 := Lib.hid st6
            clear r2 hc2 n1 n2 n3 st6
            have hmx : 0 + xb.length ≤ maxLen := by unfold maxLen; omega
            have hmy : (0 + xb.length) * 1 ≤ 140737488355328 := by omega
            have hmz : xb.length + (64 - xb.length) ≤ maxLen := by unfold maxLen; omega
            have hmu : (xb.length + (64 - xb.length)) * 1 ≤ 140737488355328 := by omega
            have hln := Lib.hid (show (bcells xb).length = xb.length * 1 by rw [bcells_length]; omega)
            have hsub := sub64 xb hxb
            go_wp2_with fail
            go_region_law (first
              | (refine step_append_any rowU8 rfl (.const (.slice none 0 0)) (.tmp 100) (by rfl) wr.heap.size (.slice none 0 0) 0 [] (by rfl) (World.ownsRow_nil _ _ _ _) ax xb.length cx (bcells xb) (by simp [Act.eval, Act.put]) hln.out (ST6.out.below (Below.refl _ _).drew).xb.at (bcells_one _) hmx hmy (Nat.le_refl _) ?_; intro g2 d2 w7 hown7 hg7 hat7; simp only [Nat.zero_add, List.nil_append] at hown7 hat7; have hb7 : Below wr.heap.size wr w7 := (Below.refl _ _).drew.grown hg7 (Nat.le_refl _) (by simp [Value.ownBlock]); have f8 := (ST6.out.below hb7).b; have hs7 := hb7.size)
              | (refine step_append_zeros_any rowU8 rfl rfl rfl (.tmp 101) (.tmp 105) 3 (by rfl) wr.heap.size .i64 .i64 Try.underlying3 (.slice g2 xb.length d2) xb.length (bcells xb) (by simp [Act.eval, Act.put]) hown7 (64 - xb.length) (by simp [Act.eval, Act.put, hsub]) hmz hmu hs7 ?_; intro g3 d3 w8 hown8 hg8 hat8; have hb8 : Below wr.heap.size wr w8 := hb7.grown hg8 hs7 (fun j hj => (hown7.lt j hj).1))
              | fail)
            all_goals
              have el : bcells xb ++ List.replicate (64 - xb.length) (.int .u8 0) = bcells (padS xb) := by unfold padS; rw [bcells_append, bcells_zeros]
              rw [el] at hown8
              have hpl : xb.length + (64 - xb.length) = (padS xb).length := by rw [padS_length xb hxb]; omega
              have want := isB_of_owns hown8 hpl
              rw [hpl, padS_length xb hxb] at want
              have WT := Lib.hid want
              have c8 := (hb8.cell (p := ⟨b2, o2 + k, none⟩) hl2).trans c2
              have hget : decide ((D.secs.set (xn.toNat % 4) (padS xb))[k]'(by simp; omega) = padS xb) = true := by
                have e := HK.out
                rw [List.getElem_set, if_pos e.symm]; simp
              clear el hpl want hown7 hown8 hg7 hg8 hat7 hat8
              go_wp2_with fail
              refine (sameB_any a2 _ m2 64 q2 _ _ (padS xb) w8 (R2.out.below hb8) WT.out).mono ?_; rintro e w9 ⟨rfl, j, rfl⟩
              rw [hget]
              go_wp2_with fail
              go_roundw
              case rel => exact ⟨k + 1, by omega, by go_num, below_drewN (hb6.trans (hb8.mono hs6)) _⟩
              case measure =>
                have := HN.out
                simp [intOf]; omega
          · have hne : ((k : Int) != (wrap64 (xn.toNat : Int)).tmod 4) = true := by rw [rem4, bne_iff_ne]; omega
            obtain ⟨v1, v2, v3, v4 | ⟨b1, o1, rfl, _, hl1, hc1⟩⟩ := WAS.out.below hb6
            · rw [v4] at h4; simp at h4
            obtain ⟨n1, n2, n3, n4 | ⟨b2, o2, rfl, _, hl2, hc2⟩⟩ := NOW.out.below hb6
            · have := congrArg List.length n4; simp at this; rw [this] at h4; simp at h4
            obtain ⟨u1, c1, a1, m1, q1, rfl, r1, _⟩ := hc1 k (by omega)
            obtain ⟨u2, c2, a2, m2, q2, rfl, r2, _⟩ := hc2 k (by simp; omega)
            have R1 := Lib.hid r1
            have R2 := Lib.hid r2
            clear r1 r2 hc1 hc2 v1 v2 v3 n1 n2 n3 st6
            go_wp2_with fail
            have hset : decide (D.secs[k]'(by omega) = (D.secs.set (xn.toNat % 4) (padS xb))[k]'(by simp; omega)) = true := by rw [List.getElem_set_ne (by omega)]; simp
            have SB : ∀ n, Calls Try.prog 18 #[.slice a1 m1 q1, .slice a2 m2 q2] (wr.drewN n) fun e w' => e = .returned (.bool true) ∧ ∃ j, w' = (wr.drewN n).drewN j := fun n => by
              have := sameB_any a1 a2 m1 m2 q1 q2 _ _ _ (R1.out.below (below_drewN (Below.refl _ _) n)) (R2.out.below (below_drewN (Below.refl _ _) n))
              rw [hset] at this
              exact this
            go_quiet ((go_at_call 18; exact Calls.quiet_of (SB _)))
            go_wp2_with fail
            go_roundw
            case rel => exact ⟨k + 1, by omega, by go_num, below_drewN hb6 _⟩
            case measure =>
              have := HN.out
              simp [intOf]; omega
        · go_wp2_with fail
          go_ret
          exact ⟨rfl, hb0.trans ((hB5.trans (hb6.mono (by omega))).mono hz)⟩

end Go.Proofs.Ytolnhjjggjbckaa
