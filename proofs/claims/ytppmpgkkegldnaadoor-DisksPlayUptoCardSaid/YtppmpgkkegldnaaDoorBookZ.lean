/- A book's lists do not share memory; conditions: those typed. -/
import Derived.Test.YtppmpgkkegldnaaDoorBookE
namespace Go.Proofs.YtppmpgkkegldnaaDoor
open Go.RowKit
set_option linter.unusedVariables false
set_option linter.unusedSimpArgs false
set_option maxRecDepth 100000

set_option maxHeartbeats 4000000 in
theorem apart_any (w : World) (B bk N : Nat) (bs : Value) (H : List Hl) (h : Bk w B bk N bs H) (hsm : ∀ i (hi : i < H.length), H[i].l.n ≤ 100000000) :
    Calls Tryd.prog 25 #[.pointer (some ⟨bk, 0, none⟩)] w fun e w' => e = .returned (.bool true) ∧ Below B w w' := by
  have HH := Lib.hid h
  have HS := Lib.hid hsm
  clear h hsm
  go_enter Tryd.func25, Tryd.ntmps25
  go_wp2_with fail
  refine (fillByte_any w B bk N bs H HH.out).mono ?_
  rintro e w1 ⟨rfl, hb1, hk1, hf1⟩
  have HB1 := Lib.hid hb1
  have HK1 := Lib.hid hk1
  have HF1 := Lib.hid hf1
  clear hb1 hk1 hf1
  go_wp2_with fail
  refine (fillInt_nil w1 bk N bs HK1.out.book).mono ?_
  rintro e w9 ⟨rfl, rfl⟩
  go_wp2_with fail
  refine (fillText_nil w1 bk N bs HK1.out.book).mono ?_
  rintro e w9 ⟨rfl, rfl⟩
  go_wp2_with fail
  refine (fillIntList_nil w1 bk N bs HK1.out.book).mono ?_
  rintro e w9 ⟨rfl, rfl⟩
  go_wp2_with fail
  refine (fillByteList_nil w1 bk N bs HK1.out.book).mono ?_
  rintro e w9 ⟨rfl, rfl⟩
  go_wp2_with fail
  refine (fillWhy_nil w1 bk N bs HK1.out.book).mono ?_
  rintro e w9 ⟨rfl, rfl⟩
  go_wp2_with fail
  refine (fillFrame_nil w1 bk N bs HK1.out.book).mono ?_
  rintro e w9 ⟨rfl, rfl⟩
  go_wp2_with fail
  refine (fillReply_nil w1 bk N bs HK1.out.book).mono ?_
  rintro e w9 ⟨rfl, rfl⟩
  go_wp2_with fail
  refine (fillRecord_nil w1 bk N bs HK1.out.book).mono ?_
  rintro e w9 ⟨rfl, rfl⟩
  go_wp2_with fail
  refine (growByte_any w1 B bk N bs H HK1.out HF1.out HS.out).mono ?_
  rintro e w2 ⟨rfl, hb2, H', hl', hk2, hg2, hs2⟩
  have HB2 := Lib.hid (HB1.out.trans hb2)
  have HK2 := Lib.hid hk2
  have HF2 := Lib.hid hg2.lists
  have HG2 : Hid (∀ i (hi : i < H'.length), HFill w2 H'[i].g (mk H'[i].m) ∧ H'[i].g.n = H'[i].l.n + 40) := Lib.hid (fun i hi => ⟨(hg2.longs i hi (by omega)).1, (hg2.longs i hi (by omega)).2.1⟩)
  have HS2 := Lib.hid hs2
  clear hb2 hk2 hg2 hs2 hl'
  go_wp2_with fail
  refine (growInt_nil w2 bk N bs HK2.out.book).mono ?_
  rintro e w9 ⟨rfl, rfl⟩
  go_wp2_with fail
  refine (growText_nil w2 bk N bs HK2.out.book).mono ?_
  rintro e w9 ⟨rfl, rfl⟩
  go_wp2_with fail
  refine (growIntList_nil w2 bk N bs HK2.out.book).mono ?_
  rintro e w9 ⟨rfl, rfl⟩
  go_wp2_with fail
  refine (growByteList_nil w2 bk N bs HK2.out.book).mono ?_
  rintro e w9 ⟨rfl, rfl⟩
  go_wp2_with fail
  refine (growWhy_nil w2 bk N bs HK2.out.book).mono ?_
  rintro e w9 ⟨rfl, rfl⟩
  go_wp2_with fail
  refine (growFrame_nil w2 bk N bs HK2.out.book).mono ?_
  rintro e w9 ⟨rfl, rfl⟩
  go_wp2_with fail
  refine (growReply_nil w2 bk N bs HK2.out.book).mono ?_
  rintro e w9 ⟨rfl, rfl⟩
  go_wp2_with fail
  refine (growRecord_nil w2 bk N bs HK2.out.book).mono ?_
  rintro e w9 ⟨rfl, rfl⟩
  go_wp2_with fail
  refine (lookByte_any w2 B bk N bs H' HK2.out HF2.out HG2.out HS2.out).mono ?_
  rintro e w3 ⟨rfl, hb3⟩
  have HB3 := Lib.hid (HB2.out.trans (hb3.mono (Nat.le_trans HK2.out.le (Nat.le_of_lt (lt_of_heap HK2.out.book)))))
  have HK3 := Lib.hid (HK2.out.below hb3)
  clear hb3
  go_wp2_with fail
  refine (lookInt_nil w3 bk N bs HK3.out.book).mono ?_
  rintro e w9 ⟨rfl, rfl⟩
  go_wp2_with fail
  refine (lookText_nil w3 bk N bs HK3.out.book).mono ?_
  rintro e w9 ⟨rfl, rfl⟩
  go_wp2_with fail
  refine (lookIntList_nil w3 bk N bs HK3.out.book).mono ?_
  rintro e w9 ⟨rfl, rfl⟩
  go_wp2_with fail
  refine (lookByteList_nil w3 bk N bs HK3.out.book).mono ?_
  rintro e w9 ⟨rfl, rfl⟩
  go_wp2_with fail
  refine (lookWhy_nil w3 bk N bs HK3.out.book).mono ?_
  rintro e w9 ⟨rfl, rfl⟩
  go_wp2_with fail
  refine (lookFrame_nil w3 bk N bs HK3.out.book).mono ?_
  rintro e w9 ⟨rfl, rfl⟩
  go_wp2_with fail
  refine (lookReply_nil w3 bk N bs HK3.out.book).mono ?_
  rintro e w9 ⟨rfl, rfl⟩
  go_wp2_with fail
  refine (lookRecord_nil w3 bk N bs HK3.out.book).mono ?_
  rintro e w9 ⟨rfl, rfl⟩
  go_wp2
  go_ret
  exact ⟨rfl, HB3.out⟩

/-- A list is told to a book. -/
theorem bytes_any (w : World) (B bk N : Nat) (bs : Value) (H : List Hl) (h : Bk w B bk N bs H) (x : Hd) (hx : HOk w B x) (hap : ∀ i (hi : i < H.length), ∀ g, H[i].l.a = some ⟨g, 0, none⟩ → x.a ≠ some ⟨g, 0, none⟩) (hN : N < 1000000) (hH : H.length < 1000000) :
    Calls Tryd.prog 11 #[.pointer (some ⟨bk, 0, none⟩), x.val] w fun e w' => e = .returned (.tuple #[]) ∧ Touch (BkS w B) w w' ∧ ∃ bs', Bk w' B bk (N + 1) bs' (H ++ [⟨x, ⟨none, 0, 0⟩, N + 1⟩]) := by
  have HH := Lib.hid h
  clear h
  go_enter Tryd.func11, Tryd.ntmps11
  go_wp2_with fail
  refine (keepByte_any w B bk N bs H HH.out x hx hap hN hH).mono ?_
  rintro e w1 ⟨rfl, h1, h2⟩
  have H1 := Lib.hid h1
  have H2 := Lib.hid h2
  clear h1 h2
  go_wp2
  go_end0
  exact ⟨rfl, H1.out, H2.out⟩

end Go.Proofs.YtppmpgkkegldnaaDoor
