/- The statement SlotsOld; conditions: those typed. -/
import Derived.Test.YthenakdfdpdknaaSlotsV
import Derived.Test.YthenakdfdpdknaaSameB
namespace Go.Proofs.Ythenakdfdpdknaa
open Go.RowKit
set_option linter.unusedVariables false

theorem IsB.blk {w : World} {a : Option Addr} {n c : Nat} {l : List UInt8} (h : IsB w a n c l) : ∀ x off, a = some ⟨x, off, none⟩ → l ≠ [] → x < w.heap.size := by
  intro x off ha hl
  rcases h.2.2.2 with ⟨h0, _⟩ | ⟨b, o, h0, hlt, _⟩
  · exact absurd h0 hl
  · rw [ha] at h0; cases h0; exact hlt
theorem u32_pos {x : UInt32} (h : x ≠ 0) : 0 < x.toNat := by
  have : x.toNat ≠ 0 := fun e => h (UInt32.toNat_inj.1 e)
  omega

set_option maxRecDepth 100000 in
set_option maxHeartbeats 4000000 in
theorem sold_test (ba : Option Addr) (bn bc : Nat) (b : List UInt8) (ca : Option Addr) (cn cc : Nat) (c : List UInt8) (num less : UInt32) (w : World) (hb : IsB w ba bn bc b) (hc : IsB w ca cn cc c) :
    Calls Try.prog 4 #[.agg #[.slice ba bn bc, .slice ca cn cc, .int .u32 num.toNat, .int .u32 less.toNat]] w fun e w' => e = .returned (.bool true) ∧ Below w.heap.size w w' := by
  obtain rfl := hb.1
  obtain rfl := hc.1
  have hbe : Below w.heap.size w (w.alloc (.cells #[.slice ba b.length bc, .slice ca c.length cc, .int .u32 num.toNat, .int .u32 less.toNat] 36)) := (Below.refl _ _).alloc (Nat.le_refl _) _
  have hv := heap_new w (.cells #[.slice ba b.length bc, .slice ca c.length cc, .int .u32 num.toNat, .int .u32 less.toNat] 36 (0, 0))
  have HB := Lib.hid hb.blk
  have HC := Lib.hid hc.blk
  have hb0 := hb.below hbe
  have hc0 := hc.below hbe
  clear hb hc
  go_enter Try.func4, Try.ntmps4
  have hn32 := num.toNat_lt
  have hl32 := less.toNat_lt
  by_cases hbig : 320 < b.length ∨ 320 < c.length ∨ num = 0
  · have HBE := Lib.hid hbe
    clear hbe hv hb0 hc0
    by_cases h1 : 320 < b.length
    · have d1 : decide ((320 : Int) < (b.length : Int)) = true := decide_eq_true (by omega)
      clear h1 hbig
      go_wp2_with fail
      refine (lives_any _).mono ?_; rintro e w5 ⟨rfl, hb5⟩
      go_wp2_with fail
      go_ret
      exact ⟨rfl, HBE.out.trans (hb5.mono HBE.out.size)⟩
    have d1 : decide ((320 : Int) < (b.length : Int)) = false := decide_eq_false (by omega)
    by_cases h2 : 320 < c.length
    · have d2 : decide ((320 : Int) < (c.length : Int)) = true := decide_eq_true (by omega)
      clear h1 h2 hbig
      go_wp2_with fail
      refine (lives_any _).mono ?_; rintro e w5 ⟨rfl, hb5⟩
      go_wp2_with fail
      go_ret
      exact ⟨rfl, HBE.out.trans (hb5.mono HBE.out.size)⟩
    have d2 : decide ((320 : Int) < (c.length : Int)) = false := decide_eq_false (by omega)
    have d3 : ((num.toNat : Int) == 0) = true := by rcases hbig with h | h | h; omega; omega; rw [h]; rfl
    clear h1 h2 hbig
    go_wp2_with fail
    refine (lives_any _).mono ?_; rintro e w5 ⟨rfl, hb5⟩
    go_wp2_with fail
    go_ret
    exact ⟨rfl, HBE.out.trans (hb5.mono HBE.out.size)⟩
  have hbl : b.length ≤ 320 := by omega
  have hcl : c.length ≤ 320 := by omega
  have hnp : 0 < num.toNat := u32_pos (fun e => hbig (.inr (.inr e)))
  have d1 : decide ((320 : Int) < (b.length : Int)) = false := decide_eq_false (by omega)
  have d2 : decide ((320 : Int) < (c.length : Int)) = false := decide_eq_false (by omega)
  have d3 : ((num.toNat : Int) == 0) = false := by rw [beq_eq_false_iff_ne]; omega
  obtain ⟨h1, hf1⟩ := put_full (D := newD 12) (newD_good 12) 0 num.toNat b (by rw [newD_len]; decide) hbl (by omega) (by rw [newD_newest]; exact hnp) (newD_room _ _)
  have hlen1 := hf1.len.trans (newD_len 12)
  have hfine := hf1.fine (newD_fine 12) hbl
  have ho1 := put_old (D := ((newD 12).put ((0 : Nat) : Int) num.toNat b).2) 0 (less.toNat % num.toNat) c (by omega) hcl (by rw [hf1.new]; have := Nat.mod_lt less.toNat hnp; dsimp only; omega)
  have ho2 := put_old (D := ((newD 12).put ((0 : Nat) : Int) num.toNat b).2) 0 num.toNat c (by omega) hcl (by rw [hf1.new]; exact Nat.le_refl _)
  have hg := get_is (D := ((newD 12).put ((0 : Nat) : Int) num.toNat b).2) 0 (by omega)
  rw [hf1.new] at hg
  dsimp only at hg
  have hput : (newD 12).put ((0 : Nat) : Int) num.toNat b = (0, ((newD 12).put ((0 : Nat) : Int) num.toNat b).2) := Prod.ext h1 rfl
  generalize ((newD 12).put ((0 : Nat) : Int) num.toNat b).2 = D1 at hput ho1 ho2 hg hfine
  obtain ⟨r, hr⟩ : ∃ r, r = less.toNat % num.toNat := ⟨_, rfl⟩
  have hrl : r < 4294967296 := by rw [hr]; have := Nat.mod_lt less.toNat hnp; omega
  rw [← hr] at ho1
  have ER : Hid ((less.toNat : Int) % (num.toNat : Int) = (r : Int)) := Lib.hid (by rw [hr]; simp)
  have HP := Lib.hid hput
  have HO1 := Lib.hid ho1
  have HO2 := Lib.hid ho2
  have HG := Lib.hid hg
  have HF := Lib.hid hfine
  have HBE := Lib.hid hbe
  clear hr hbig h1 hf1 hlen1 hput ho1 ho2 hg hfine hbe
  go_wp2_with fail
  generalize w.alloc (.cells #[.slice ba b.length bc, .slice ca c.length cc, .int .u32 num.toNat, .int .u32 less.toNat] 36) = w0 at HBE hv hb0 hc0 ⊢
  refine (new_disk 12 12 w0 rfl (by decide) (by decide)).mono ?_; rintro e w1 ⟨bd, bl, rfl, hb1, g1, g2, hd1⟩
  have hbs := HBE.out.size
  have hb1' := hb0.below hb1
  have hc1' := hc0.below hb1
  have HB1 := Lib.hid (HBE.out.trans (hb1.mono hbs))
  have hgb : Hid (∀ x off, ba = some ⟨x, off, none⟩ → b ≠ [] → ¬ (x = bd ∨ x = bl)) := Lib.hid (fun x off h hl => by have := HB.out x off h hl; omega)
  have hgc : Hid (∀ x off, ca = some ⟨x, off, none⟩ → c ≠ [] → ¬ (x = bd ∨ x = bl)) := Lib.hid (fun x off h hl => by have := HC.out x off h hl; omega)
  have hgg : Hid (w.heap.size ≤ bd ∧ w.heap.size ≤ bl) := Lib.hid (by omega)
  clear hb0 hc0 hb1 hv g1 g2 hbs
  go_wp2_with fail
  refine (put_any bd bl (newD 12) ((0 : Nat) : Int) num.toNat ba b.length bc b 0 w1 hd1 hb1' hgb.out (newD_fine 12) (by decide) (by omega)).mono ?_; rintro e w2 ⟨rfl, ht2, hd2⟩
  rw [HP.out] at hd2 ⊢
  have hd2' : IsDisk w2 bd bl D1 := hd2
  have hb2 := hb1'.touch ht2 hgb.out
  have hc2 := hc1'.touch ht2 hgc.out
  have HB2 := Lib.hid (HB1.out.trans (ht2.below HB1.out.size (fun k hk e => by have := hgg.out; omega)))
  clear hd1 hb1' hc1' ht2 hd2
  go_wp2_with (first
    | (go_at_call 12; refine (writes_disk bd bl D1 _ hd2').mono ?_; rintro e w' ⟨rfl, rfl⟩)
    | fail)
  rw [ER.out]
  refine (put_any bd bl D1 ((0 : Nat) : Int) r ca c.length cc c (0 + 6) w2 hd2' hc2 hgc.out HF.out (by decide) hrl).mono ?_; rintro e w3 ⟨rfl, ht3, hd3⟩
  rw [HO1.out] at hd3 ⊢
  have hd3' : IsDisk w3 bd bl D1 := hd3
  have hb3 := hb2.touch ht3 hgb.out
  have hc3 := hc2.touch ht3 hgc.out
  have HB3 := Lib.hid (HB2.out.trans (ht3.below HB2.out.size (fun k hk e => by have := hgg.out; omega)))
  clear hd2' hb2 hc2 ht3 hd3
  go_wp2_with fail
  refine (put_any bd bl D1 ((0 : Nat) : Int) num.toNat ca c.length cc c (0 + 6) w3 hd3' hc3 hgc.out HF.out (by decide) (by omega)).mono ?_; rintro e w4 ⟨rfl, ht4, hd4⟩
  rw [HO2.out] at hd4 ⊢
  have hd4' : IsDisk w4 bd bl D1 := hd4
  have hb4 := hb3.touch ht4 hgb.out
  have HB4 := Lib.hid (HB3.out.trans (ht4.below HB3.out.size (fun k hk e => by have := hgg.out; omega)))
  clear hd3' hb3 hc3 ht4 hd4
  go_wp2_with fail
  refine (get_any bd bl D1 ((0 : Nat) : Int) w4 hd4').mono ?_; rintro e w5 ⟨a5, rfl, hb5, hi5⟩
  rw [HG.out] at hi5 ⊢
  have hi5' : IsB w5 a5 b.length b.length b := hi5
  have hd5 := hd4'.touch (Touch.of_below (S := fun _ => False) hb5) id id
  have hbb5 := hb4.below hb5
  have HB5 := Lib.hid (HB4.out.trans (hb5.mono HB4.out.size))
  clear hd4' hb4 hb5 hi5
  go_wp2_with (first
    | (go_at_call 12; refine (writes_disk bd bl D1 _ hd5).mono ?_; rintro e w' ⟨rfl, rfl⟩)
    | fail)
  refine (sameB_any a5 ba _ _ b.length bc b b w5 hi5' hbb5).mono ?_
  rintro e w6 ⟨rfl, j, rfl⟩
  rw [decide_eq_true (rfl : b = b)]
  have HB6 := Lib.hid (HB5.out.trans ((below_drewN (Below.refl w5.heap.size w5) j).mono HB5.out.size))
  clear hi5' hd5 hbb5
  generalize w5.drewN j = w6 at HB6 ⊢
  go_wp2_with fail
  refine (lives_any w6).mono ?_; rintro e w7 ⟨rfl, hb7⟩
  go_wp2_with fail
  go_ret
  exact ⟨rfl, HB6.out.trans (hb7.mono HB6.out.size)⟩

end Go.Proofs.Ythenakdfdpdknaa
