/- A book of four kinds: no two lists share memory; conditions: those typed. (Written by gen_apart.py.) -/
import Derived.Test.YthadgnaaipdpaaaGreatDoorKBe
import Derived.Test.YthadgnaaipdpaaaGreatDoorKBByte
import Derived.Test.YthadgnaaipdpaaaGreatDoorKBInt
import Derived.Test.YthadgnaaipdpaaaGreatDoorKBIntList
import Derived.Test.YthadgnaaipdpaaaGreatDoorKBByteList
namespace Go.Proofs.YthadgnaaipdpaaaGreatDoor
open Go.RowKit
set_option linter.unusedVariables false
set_option linter.unusedSimpArgs false
set_option maxRecDepth 100000

theorem bookC_at (N : Nat) (bs : Kd → Value) (κ : Kd) : (bookC N bs)[κ.ix]? = some (bs κ) := by cases κ <;> rfl

theorem fillByte_fs {F : Nat} {w0 w : World} {B bk N : Nat} {bs : Kd → Value} {H : Kd → List Hl} {done : Kd → Prop} (h : Fs F w0 w B bk N bs H done) :
    Calls Tryz.prog 42 #[.pointer (some ⟨bk, 0, none⟩)] w fun e w' => e = .returned (.tuple #[]) ∧ Fs F w0 w' B bk N bs H (fun k => k = .byte ∨ done k) := by
  obtain ⟨bo, bc, hbs⟩ := owns_shape (h.book.part .byte).row
  have hp := h.book.part .byte
  rw [hbs] at hp
  have hC := bookC_at N bs .byte
  rw [hbs] at hC
  refine (fillByte_any w B bk (bookC N bs) bo bc (H .byte) h.book.book hC hp F h.size (h.low .byte)).mono ?_
  rintro e w' ⟨he, ht, hp', hf⟩
  exact ⟨he, h.fills .byte ht (by rw [hbs]; exact hp') hf⟩
theorem growByte_fs {F : Nat} {w0 w : World} {B bk N : Nat} {bs : Kd → Value} {H : Kd → List Hl} {done : Kd → Prop} (h : GSt F w0 w B bk N bs H done) :
    Calls Tryz.prog 51 #[.pointer (some ⟨bk, 0, none⟩)] w fun e w' => e = .returned (.tuple #[]) ∧ ∃ H', GSt F w0 w' B bk N bs H' (fun k => k = .byte ∨ done k) := by
  obtain ⟨bo, bc, hbs⟩ := owns_shape (h.book.part .byte).row
  have hp := h.book.part .byte
  rw [hbs] at hp
  have hC := bookC_at N bs .byte
  rw [hbs] at hC
  refine (growByte_any w B bk (bookC N bs) bo bc (H .byte) h.book.book hC hp F h.size (h.low .byte) (fun k hk => h.row .byte k (by rw [hbs, hk]; rfl)) (h.fill .byte) (h.small .byte)).mono ?_
  rintro e w' ⟨he, ht, L, hl, hs, hp', hg⟩
  exact ⟨he, _, h.grows .byte hbs ht hl hs hp' hg⟩
theorem lookByte_fs {F : Nat} {w0 w : World} {B bk N : Nat} {bs : Kd → Value} {H : Kd → List Hl} {done : Kd → Prop} (h : GSt F w0 w B bk N bs H done) (hd : done .byte) :
    Calls Tryz.prog 60 #[.pointer (some ⟨bk, 0, none⟩)] w fun e w' => e = .returned (.bool true) ∧ GSt F w0 w' B bk N bs H done := by
  obtain ⟨bo, bc, hbs⟩ := owns_shape (h.book.part .byte).row
  have hp := h.book.part .byte
  rw [hbs] at hp
  have hC := bookC_at N bs .byte
  rw [hbs] at hC
  refine (lookByte_any w B bk (bookC N bs) bo bc (H .byte) h.book.book hC hp F (h.fill .byte) (fun i hi => ⟨(h.long .byte hd i hi).1, (h.long .byte hd i hi).2.1⟩) (h.small .byte)).mono ?_
  rintro e w' ⟨he, hb⟩
  exact ⟨he, h.after hb⟩

theorem fillInt_fs {F : Nat} {w0 w : World} {B bk N : Nat} {bs : Kd → Value} {H : Kd → List Hl} {done : Kd → Prop} (h : Fs F w0 w B bk N bs H done) :
    Calls Tryz.prog 43 #[.pointer (some ⟨bk, 0, none⟩)] w fun e w' => e = .returned (.tuple #[]) ∧ Fs F w0 w' B bk N bs H (fun k => k = .int ∨ done k) := by
  obtain ⟨bo, bc, hbs⟩ := owns_shape (h.book.part .int).row
  have hp := h.book.part .int
  rw [hbs] at hp
  have hC := bookC_at N bs .int
  rw [hbs] at hC
  refine (fillInt_any w B bk (bookC N bs) bo bc (H .int) h.book.book hC hp F h.size (h.low .int)).mono ?_
  rintro e w' ⟨he, ht, hp', hf⟩
  exact ⟨he, h.fills .int ht (by rw [hbs]; exact hp') hf⟩
theorem growInt_fs {F : Nat} {w0 w : World} {B bk N : Nat} {bs : Kd → Value} {H : Kd → List Hl} {done : Kd → Prop} (h : GSt F w0 w B bk N bs H done) :
    Calls Tryz.prog 52 #[.pointer (some ⟨bk, 0, none⟩)] w fun e w' => e = .returned (.tuple #[]) ∧ ∃ H', GSt F w0 w' B bk N bs H' (fun k => k = .int ∨ done k) := by
  obtain ⟨bo, bc, hbs⟩ := owns_shape (h.book.part .int).row
  have hp := h.book.part .int
  rw [hbs] at hp
  have hC := bookC_at N bs .int
  rw [hbs] at hC
  refine (growInt_any w B bk (bookC N bs) bo bc (H .int) h.book.book hC hp F h.size (h.low .int) (fun k hk => h.row .int k (by rw [hbs, hk]; rfl)) (h.fill .int) (h.small .int)).mono ?_
  rintro e w' ⟨he, ht, L, hl, hs, hp', hg⟩
  exact ⟨he, _, h.grows .int hbs ht hl hs hp' hg⟩
theorem lookInt_fs {F : Nat} {w0 w : World} {B bk N : Nat} {bs : Kd → Value} {H : Kd → List Hl} {done : Kd → Prop} (h : GSt F w0 w B bk N bs H done) (hd : done .int) :
    Calls Tryz.prog 61 #[.pointer (some ⟨bk, 0, none⟩)] w fun e w' => e = .returned (.bool true) ∧ GSt F w0 w' B bk N bs H done := by
  obtain ⟨bo, bc, hbs⟩ := owns_shape (h.book.part .int).row
  have hp := h.book.part .int
  rw [hbs] at hp
  have hC := bookC_at N bs .int
  rw [hbs] at hC
  refine (lookInt_any w B bk (bookC N bs) bo bc (H .int) h.book.book hC hp F (h.fill .int) (fun i hi => ⟨(h.long .int hd i hi).1, (h.long .int hd i hi).2.1⟩) (h.small .int)).mono ?_
  rintro e w' ⟨he, hb⟩
  exact ⟨he, h.after hb⟩

theorem fillIntList_fs {F : Nat} {w0 w : World} {B bk N : Nat} {bs : Kd → Value} {H : Kd → List Hl} {done : Kd → Prop} (h : Fs F w0 w B bk N bs H done) :
    Calls Tryz.prog 45 #[.pointer (some ⟨bk, 0, none⟩)] w fun e w' => e = .returned (.tuple #[]) ∧ Fs F w0 w' B bk N bs H (fun k => k = .il ∨ done k) := by
  obtain ⟨bo, bc, hbs⟩ := owns_shape (h.book.part .il).row
  have hp := h.book.part .il
  rw [hbs] at hp
  have hC := bookC_at N bs .il
  rw [hbs] at hC
  refine (fillIntList_any w B bk (bookC N bs) bo bc (H .il) h.book.book hC hp F h.size (h.low .il)).mono ?_
  rintro e w' ⟨he, ht, hp', hf⟩
  exact ⟨he, h.fills .il ht (by rw [hbs]; exact hp') hf⟩
theorem growIntList_fs {F : Nat} {w0 w : World} {B bk N : Nat} {bs : Kd → Value} {H : Kd → List Hl} {done : Kd → Prop} (h : GSt F w0 w B bk N bs H done) :
    Calls Tryz.prog 54 #[.pointer (some ⟨bk, 0, none⟩)] w fun e w' => e = .returned (.tuple #[]) ∧ ∃ H', GSt F w0 w' B bk N bs H' (fun k => k = .il ∨ done k) := by
  obtain ⟨bo, bc, hbs⟩ := owns_shape (h.book.part .il).row
  have hp := h.book.part .il
  rw [hbs] at hp
  have hC := bookC_at N bs .il
  rw [hbs] at hC
  refine (growIntList_any w B bk (bookC N bs) bo bc (H .il) h.book.book hC hp F h.size (h.low .il) (fun k hk => h.row .il k (by rw [hbs, hk]; rfl)) (h.fill .il) (h.small .il)).mono ?_
  rintro e w' ⟨he, ht, L, hl, hs, hp', hg⟩
  exact ⟨he, _, h.grows .il hbs ht hl hs hp' hg⟩
theorem lookIntList_fs {F : Nat} {w0 w : World} {B bk N : Nat} {bs : Kd → Value} {H : Kd → List Hl} {done : Kd → Prop} (h : GSt F w0 w B bk N bs H done) (hd : done .il) :
    Calls Tryz.prog 63 #[.pointer (some ⟨bk, 0, none⟩)] w fun e w' => e = .returned (.bool true) ∧ GSt F w0 w' B bk N bs H done := by
  obtain ⟨bo, bc, hbs⟩ := owns_shape (h.book.part .il).row
  have hp := h.book.part .il
  rw [hbs] at hp
  have hC := bookC_at N bs .il
  rw [hbs] at hC
  refine (lookIntList_any w B bk (bookC N bs) bo bc (H .il) h.book.book hC hp F (h.fill .il) (fun i hi => ⟨(h.long .il hd i hi).1, (h.long .il hd i hi).2.1⟩) (h.small .il)).mono ?_
  rintro e w' ⟨he, hb⟩
  exact ⟨he, h.after hb⟩

theorem fillByteList_fs {F : Nat} {w0 w : World} {B bk N : Nat} {bs : Kd → Value} {H : Kd → List Hl} {done : Kd → Prop} (h : Fs F w0 w B bk N bs H done) :
    Calls Tryz.prog 46 #[.pointer (some ⟨bk, 0, none⟩)] w fun e w' => e = .returned (.tuple #[]) ∧ Fs F w0 w' B bk N bs H (fun k => k = .bl ∨ done k) := by
  obtain ⟨bo, bc, hbs⟩ := owns_shape (h.book.part .bl).row
  have hp := h.book.part .bl
  rw [hbs] at hp
  have hC := bookC_at N bs .bl
  rw [hbs] at hC
  refine (fillByteList_any w B bk (bookC N bs) bo bc (H .bl) h.book.book hC hp F h.size (h.low .bl)).mono ?_
  rintro e w' ⟨he, ht, hp', hf⟩
  exact ⟨he, h.fills .bl ht (by rw [hbs]; exact hp') hf⟩
theorem growByteList_fs {F : Nat} {w0 w : World} {B bk N : Nat} {bs : Kd → Value} {H : Kd → List Hl} {done : Kd → Prop} (h : GSt F w0 w B bk N bs H done) :
    Calls Tryz.prog 55 #[.pointer (some ⟨bk, 0, none⟩)] w fun e w' => e = .returned (.tuple #[]) ∧ ∃ H', GSt F w0 w' B bk N bs H' (fun k => k = .bl ∨ done k) := by
  obtain ⟨bo, bc, hbs⟩ := owns_shape (h.book.part .bl).row
  have hp := h.book.part .bl
  rw [hbs] at hp
  have hC := bookC_at N bs .bl
  rw [hbs] at hC
  refine (growByteList_any w B bk (bookC N bs) bo bc (H .bl) h.book.book hC hp F h.size (h.low .bl) (fun k hk => h.row .bl k (by rw [hbs, hk]; rfl)) (h.fill .bl) (h.small .bl)).mono ?_
  rintro e w' ⟨he, ht, L, hl, hs, hp', hg⟩
  exact ⟨he, _, h.grows .bl hbs ht hl hs hp' hg⟩
theorem lookByteList_fs {F : Nat} {w0 w : World} {B bk N : Nat} {bs : Kd → Value} {H : Kd → List Hl} {done : Kd → Prop} (h : GSt F w0 w B bk N bs H done) (hd : done .bl) :
    Calls Tryz.prog 64 #[.pointer (some ⟨bk, 0, none⟩)] w fun e w' => e = .returned (.bool true) ∧ GSt F w0 w' B bk N bs H done := by
  obtain ⟨bo, bc, hbs⟩ := owns_shape (h.book.part .bl).row
  have hp := h.book.part .bl
  rw [hbs] at hp
  have hC := bookC_at N bs .bl
  rw [hbs] at hC
  refine (lookByteList_any w B bk (bookC N bs) bo bc (H .bl) h.book.book hC hp F (h.fill .bl) (fun i hi => ⟨(h.long .bl hd i hi).1, (h.long .bl hd i hi).2.1⟩) (h.small .bl)).mono ?_
  rintro e w' ⟨he, hb⟩
  exact ⟨he, h.after hb⟩

set_option maxHeartbeats 8000000 in
theorem apart_any (w : World) (B bk N : Nat) (bs : Kd → Value) (H : Kd → List Hl) (h : Bk w B bk N bs H) (hsm : ∀ κ i (hi : i < (H κ).length), (H κ)[i].l.n ≤ 100000000) :
    Calls Tryz.prog 24 #[.pointer (some ⟨bk, 0, none⟩)] w fun e w' => e = .returned (.bool true) ∧ Below B w w' := by
  have S0 := Lib.hid (Fs.start h)
  have HS := Lib.hid hsm
  obtain ⟨F, hF⟩ : ∃ F, F = w.heap.size := ⟨_, rfl⟩
  rw [← hF] at S0
  clear h hsm hF
  go_enter Tryz.func24, Tryz.ntmps24
  go_wp2_with fail
  refine (fillByte_fs S0.out).mono ?_; rintro e w1 ⟨rfl, hs⟩; have S1 := Lib.hid hs; clear hs
  go_wp2_with fail
  refine (fillInt_fs S1.out).mono ?_; rintro e w2 ⟨rfl, hs⟩; have S2 := Lib.hid hs; clear hs
  go_wp2_with fail
  refine (fillText_nil w2 bk N bs S2.out.book.book).mono ?_; rintro e w' ⟨rfl, rfl⟩
  go_wp2_with fail
  refine (fillIntList_fs S2.out).mono ?_; rintro e w3 ⟨rfl, hs⟩; have S3 := Lib.hid hs; clear hs
  go_wp2_with fail
  refine (fillByteList_fs S3.out).mono ?_; rintro e w4 ⟨rfl, hs⟩; have S4 := Lib.hid hs; clear hs
  go_wp2_with fail
  refine (fillWhy_nil w4 bk N bs S4.out.book.book).mono ?_; rintro e w' ⟨rfl, rfl⟩
  go_wp2_with fail
  refine (fillFrame_nil w4 bk N bs S4.out.book.book).mono ?_; rintro e w' ⟨rfl, rfl⟩
  go_wp2_with fail
  refine (fillReply_nil w4 bk N bs S4.out.book.book).mono ?_; rintro e w' ⟨rfl, rfl⟩
  go_wp2_with fail
  refine (fillRecord_nil w4 bk N bs S4.out.book.book).mono ?_; rintro e w' ⟨rfl, rfl⟩
  have G4 := Lib.hid (GSt.start S4.out (fun κ => by cases κ <;> simp) HS.out)
  clear S0 S1 S2 S3 S4 HS
  go_wp2_with fail
  refine (growByte_fs G4.out).mono ?_; rintro e w5 ⟨rfl, H5, hs⟩; have G5 := Lib.hid hs; clear hs G4
  go_wp2_with fail
  refine (growInt_fs G5.out).mono ?_; rintro e w6 ⟨rfl, H6, hs⟩; have G6 := Lib.hid hs; clear hs G5
  go_wp2_with fail
  refine (growText_nil w6 bk N bs G6.out.book.book).mono ?_; rintro e w' ⟨rfl, rfl⟩
  go_wp2_with fail
  refine (growIntList_fs G6.out).mono ?_; rintro e w7 ⟨rfl, H7, hs⟩; have G7 := Lib.hid hs; clear hs G6
  go_wp2_with fail
  refine (growByteList_fs G7.out).mono ?_; rintro e w8 ⟨rfl, H8, hs⟩; have G8 := Lib.hid hs; clear hs G7
  go_wp2_with fail
  refine (growWhy_nil w8 bk N bs G8.out.book.book).mono ?_; rintro e w' ⟨rfl, rfl⟩
  go_wp2_with fail
  refine (growFrame_nil w8 bk N bs G8.out.book.book).mono ?_; rintro e w' ⟨rfl, rfl⟩
  go_wp2_with fail
  refine (growReply_nil w8 bk N bs G8.out.book.book).mono ?_; rintro e w' ⟨rfl, rfl⟩
  go_wp2_with fail
  refine (growRecord_nil w8 bk N bs G8.out.book.book).mono ?_; rintro e w' ⟨rfl, rfl⟩
  go_wp2_with fail
  refine (lookByte_fs G8.out (by simp)).mono ?_; rintro e w9 ⟨rfl, hs⟩; have G9 := Lib.hid hs; clear hs G8
  go_wp2_with fail
  refine (lookInt_fs G9.out (by simp)).mono ?_; rintro e w10 ⟨rfl, hs⟩; have G10 := Lib.hid hs; clear hs G9
  go_wp2_with fail
  refine (lookText_nil w10 bk N bs G10.out.book.book).mono ?_; rintro e w' ⟨rfl, rfl⟩
  go_wp2_with fail
  refine (lookIntList_fs G10.out (by simp)).mono ?_; rintro e w11 ⟨rfl, hs⟩; have G11 := Lib.hid hs; clear hs G10
  go_wp2_with fail
  refine (lookByteList_fs G11.out (by simp)).mono ?_; rintro e w12 ⟨rfl, hs⟩; have G12 := Lib.hid hs; clear hs G11
  go_wp2_with fail
  refine (lookWhy_nil w12 bk N bs G12.out.book.book).mono ?_; rintro e w' ⟨rfl, rfl⟩
  go_wp2_with fail
  refine (lookFrame_nil w12 bk N bs G12.out.book.book).mono ?_; rintro e w' ⟨rfl, rfl⟩
  go_wp2_with fail
  refine (lookReply_nil w12 bk N bs G12.out.book.book).mono ?_; rintro e w' ⟨rfl, rfl⟩
  go_wp2_with fail
  refine (lookRecord_nil w12 bk N bs G12.out.book.book).mono ?_; rintro e w' ⟨rfl, rfl⟩
  go_wp2
  go_ret
  exact ⟨rfl, G12.out.below⟩

end Go.Proofs.YthadgnaaipdpaaaGreatDoor
