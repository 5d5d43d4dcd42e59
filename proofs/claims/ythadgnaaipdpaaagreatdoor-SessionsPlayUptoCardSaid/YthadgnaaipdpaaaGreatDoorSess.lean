/- The package sessions: what its small functions do; conditions: those typed. -/
import Derived.Test.YthadgnaaipdpaaaGreatDoorBytesF
import Derived.Test.YthadgnaaipdpaaaGreatDoorMapF
import Derived.Deep.RegionHeld3
namespace Go.Proofs.YthadgnaaipdpaaaGreatDoor
open Go.RowKit
set_option linter.unusedVariables false
set_option maxRecDepth 100000

/-- S is a set of blocks that hold maps. -/
def MapsOnly (S : Nat → Prop) (w : World) : Prop := ∀ k, S k → ∃ es c, w.heap[k]? = some (.map es c)
theorem MapsOnly.cell {S : Nat → Prop} {w : World} (h : MapsOnly S w) {p : Addr} {v : Value} (hp : w.cell? p = some v) : ¬ S p.block := by
  intro hs
  obtain ⟨es, c, e⟩ := h _ hs
  simp [World.cell?, e] at hp
theorem MapsOnly.cells {S : Nat → Prop} {w : World} (h : MapsOnly S w) {b : Nat} {C : Array Value} {e : TypeId} {fz : Nat × Nat} (hb : w.heap[b]? = some (.cells C e fz)) : ¬ S b := by
  intro hs
  obtain ⟨es, c, e⟩ := h _ hs
  rw [hb] at e
  cases e
theorem IsB.keep {S : Nat → Prop} {w w' : World} {a : Option Addr} {n c : Nat} {l : List UInt8} (h : IsB w a n c l) (ht : Touch S w w') (hm : MapsOnly S w) : IsB w' a n c l := by
  obtain ⟨h1, h2, h3, h4 | ⟨b, off, rfl, hlt, hc⟩⟩ := h
  · exact ⟨h1, h2, h3, .inl h4⟩
  · exact ⟨h1, h2, h3, .inr ⟨b, off, rfl, Nat.lt_of_lt_of_le hlt ht.size, fun i hi => ht.cell (hc i hi) (hm.cell (hc i hi))⟩⟩

/-- A slice of bytes whose block is known to hold bytes. -/
def BTy (w : World) (a : Option Addr) : Prop := ∀ g off, a = some ⟨g, off, none⟩ → ∃ C : Array Value × Nat × Nat, w.heap[g]? = some (.cells C.1 5 C.2)
def IsBT (w : World) (a : Option Addr) (n c : Nat) (l : List UInt8) : Prop := IsB w a n c l ∧ BTy w a
theorem BTy.touch {S : Nat → Prop} {w w' : World} {a : Option Addr} (h : BTy w a) (ht : Touch S w w') (hs : ∀ k, S k → ∀ cur t fz, w.heap[k]? = some (.cells cur t fz) → t ≠ 5) : BTy w' a := fun g off e => by
  obtain ⟨C, hC⟩ := h g off e
  exact ⟨C, ht.heap hC (fun hk => hs g hk _ _ _ hC rfl)⟩
theorem IsBT.touch {S : Nat → Prop} {w w' : World} {a : Option Addr} {n c : Nat} {l : List UInt8} (h : IsBT w a n c l) (ht : Touch S w w') (hs : ∀ k, S k → ∀ cur t fz, w.heap[k]? = some (.cells cur t fz) → t ≠ 5) : IsBT w' a n c l := by
  refine ⟨?_, h.2.touch ht hs⟩
  obtain ⟨⟨h1, h2, h3, h4 | ⟨b, off, rfl, hlt, hc⟩⟩, hy⟩ := h
  · exact ⟨h1, h2, h3, .inl h4⟩
  · obtain ⟨C, hC⟩ := hy b off rfl
    exact ⟨h1, h2, h3, .inr ⟨b, off, rfl, Nat.lt_of_lt_of_le hlt ht.size, fun i hi => ht.cell (hc i hi) (fun hk => hs b hk _ _ _ hC rfl)⟩⟩
theorem IsBT.keep {S : Nat → Prop} {w w' : World} {a : Option Addr} {n c : Nat} {l : List UInt8} (h : IsBT w a n c l) (ht : Touch S w w') (hm : MapsOnly S w) : IsBT w' a n c l := h.touch ht (fun k hk cur t fz hc => (hm.cells hc hk).elim)
theorem IsBT.below {w w' : World} {a : Option Addr} {n c : Nat} {l : List UInt8} (h : IsBT w a n c l) (hb : Below w.heap.size w w') : IsBT w' a n c l := h.touch (Touch.of_below (S := fun _ => False) hb) (fun _ h => h.elim)

noncomputable def uk : KeyEnc Tryz.prog 5 UInt8 := u8key Tryz.underlying5

structure Tbl where
  secrets : UInt8 → Option (List UInt8)
  tokens : UInt8 → Option UInt64
  kept : UInt8 → Option (UInt32 × List UInt8)

def SecRel (w : World) (f : UInt8 → Option Value) (s : UInt8 → Option (List UInt8)) : Prop := ∀ k, match s k with
  | none => f k = none
  | some l => ∃ a c, f k = some (.slice a l.length c) ∧ IsB w a l.length c l ∧ BTy w a
def KeptRel (w : World) (f : UInt8 → Option Value) (s : UInt8 → Option (UInt32 × List UInt8)) : Prop := ∀ k, match s k with
  | none => f k = none
  | some x => ∃ g, f k = some (.pointer (some ⟨g, 0, none⟩)) ∧ w.heap[g]? = some (.cells #[.int .u32 x.1.toNat, .string (strB x.2)] 92 (0, 0))
def tokF (s : UInt8 → Option UInt64) : UInt8 → Option Value := fun k => (s k).map fun n => .int .u64 n.toNat
theorem SecRel.keep {S : Nat → Prop} {w w' : World} {f : UInt8 → Option Value} {s : UInt8 → Option (List UInt8)} (h : SecRel w f s) (ht : Touch S w w') (hm : MapsOnly S w) : SecRel w' f s := by
  intro k
  have := h k
  cases e : s k with
  | none => rw [e] at this; exact this
  | some l =>
    rw [e] at this
    obtain ⟨a, c, h1, h2⟩ := this
    exact ⟨a, c, h1, h2.1.keep ht hm, (IsBT.keep h2 ht hm).2⟩
theorem KeptRel.keep {S : Nat → Prop} {w w' : World} {f : UInt8 → Option Value} {s : UInt8 → Option (UInt32 × List UInt8)} (h : KeptRel w f s) (ht : Touch S w w') (hm : MapsOnly S w) : KeptRel w' f s := by
  intro k
  have := h k
  cases e : s k with
  | none => rw [e] at this; exact this
  | some l =>
    rw [e] at this
    obtain ⟨g, h1, h2⟩ := this
    exact ⟨g, h1, ht.heap h2 (hm.cells h2)⟩

/-- A table in memory: its struct in block bt, its maps in the blocks b1, b2, b3. -/
structure IsTbl (w : World) (bt b1 b2 b3 : Nat) (T : Tbl) : Prop where
  n12 : b1 ≠ b2
  n13 : b1 ≠ b3
  n23 : b2 ≠ b3
  cells : w.heap[bt]? = some (.cells #[.map (some b1), .map (some b2), .map (some b3)] 74 (0, 0))
  m1 : ∃ f, MapF uk w b1 f ∧ SecRel w f T.secrets
  m2 : MapF uk w b2 (tokF T.tokens)
  m3 : ∃ f, MapF uk w b3 f ∧ KeptRel w f T.kept
theorem IsTbl.keep {S : Nat → Prop} {w w' : World} {bt b1 b2 b3 : Nat} {T : Tbl} (h : IsTbl w bt b1 b2 b3 T) (ht : Touch S w w') (hm : MapsOnly S w) (h1 : ¬ S b1) (h2 : ¬ S b2) (h3 : ¬ S b3) : IsTbl w' bt b1 b2 b3 T := by
  obtain ⟨f, hf, hr⟩ := h.m1
  obtain ⟨g, hg, hs⟩ := h.m3
  exact ⟨h.n12, h.n13, h.n23, ht.heap h.cells (hm.cells h.cells), ⟨f, hf.touch uk ht h1, hr.keep ht hm⟩, h.m2.touch uk ht h2, ⟨g, hg.touch uk ht h3, hs.keep ht hm⟩⟩
/-- Blocks of other kinds than a table's. -/
def NoTbl (w : World) (S : Nat → Prop) : Prop := ∀ k, S k → ∃ cur t fz, w.heap[k]? = some (.cells cur t fz) ∧ t ≠ 5 ∧ t ≠ 74 ∧ t ≠ 92
theorem NoTbl.cells {w : World} {S : Nat → Prop} (h : NoTbl w S) {g : Nat} {cur : Array Value} {t : TypeId} {fz : Nat × Nat} (hc : w.heap[g]? = some (.cells cur t fz)) (ht : t = 5 ∨ t = 74 ∨ t = 92) : ¬ S g := fun hk => by
  obtain ⟨cur2, t2, fz2, hc2, h1, h2, h3⟩ := h g hk
  rw [hc] at hc2
  have e := (Obj.cells.inj (Option.some.inj hc2)).2.1
  rw [← e] at h1 h2 h3
  rcases ht with e | e | e
  · exact h1 e
  · exact h2 e
  · exact h3 e
theorem NoTbl.map {w : World} {S : Nat → Prop} (h : NoTbl w S) {g : Nat} {es : Array MapEntry} {c : Nat} (hc : w.heap[g]? = some (.map es c)) : ¬ S g := fun hk => by
  obtain ⟨cur2, t2, fz2, hc2, _⟩ := h g hk
  rw [hc] at hc2; cases hc2
theorem IsTbl.other {S : Nat → Prop} {w w' : World} {bt b1 b2 b3 : Nat} {T : Tbl} (h : IsTbl w bt b1 b2 b3 T) (ht : Touch S w w') (hn : NoTbl w S) : IsTbl w' bt b1 b2 b3 T := by
  obtain ⟨f, hf, hr⟩ := h.m1
  obtain ⟨g, hg, hs⟩ := h.m3
  obtain ⟨e1, c1, h1, _⟩ := id hf
  obtain ⟨e2, c2, h2, _⟩ := id h.m2
  obtain ⟨e3, c3, h3, _⟩ := id hg
  refine ⟨h.n12, h.n13, h.n23, ht.heap h.cells (hn.cells h.cells (.inr (.inl rfl))), ⟨f, hf.touch uk ht (hn.map h1), fun k => ?_⟩, h.m2.touch uk ht (hn.map h2), ⟨g, hg.touch uk ht (hn.map h3), fun k => ?_⟩⟩
  · have := hr k
    cases e : T.secrets k with
    | none => rw [e] at this; exact this
    | some l =>
      rw [e] at this
      obtain ⟨a, c, q1, q2⟩ := this
      exact ⟨a, c, q1, IsBT.touch q2 ht (fun k hk cur t fz hc e => hn.cells hc (.inl e) hk)⟩
  · have := hs k
    cases e : T.kept k with
    | none => rw [e] at this; exact this
    | some l =>
      rw [e] at this
      obtain ⟨g, q1, q2⟩ := this
      exact ⟨g, q1, ht.heap q2 (hn.cells q2 (.inr (.inr rfl)))⟩
theorem mapsNone (w : World) : MapsOnly (fun _ => False) w := fun _ h => h.elim
theorem IsTbl.below {w w' : World} {bt b1 b2 b3 : Nat} {T : Tbl} (h : IsTbl w bt b1 b2 b3 T) (hb : Below w.heap.size w w') : IsTbl w' bt b1 b2 b3 T :=
  h.keep (Touch.of_below (S := fun _ => False) hb) (mapsNone _) id id id
theorem MapF.block {w : World} {b : Nat} {f : UInt8 → Option Value} (h : MapF uk w b f) : ∃ es c, w.heap[b]? = some (.map es c) := by
  obtain ⟨es, c, hb, _⟩ := h
  exact ⟨es, c, hb⟩
theorem IsTbl.maps {w : World} {bt b1 b2 b3 : Nat} {T : Tbl} (h : IsTbl w bt b1 b2 b3 T) : MapsOnly (fun k => k = b1 ∨ k = b2 ∨ k = b3) w := by
  rintro k (rfl | rfl | rfl)
  · obtain ⟨f, hf, _⟩ := h.m1; exact hf.block
  · exact h.m2.block
  · obtain ⟨f, hf, _⟩ := h.m3; exact hf.block
theorem IsTbl.field {w : World} {bt b1 b2 b3 : Nat} {T : Tbl} (h : IsTbl w bt b1 b2 b3 T) :
    w.cell? ⟨bt, 0, none⟩ = some (.map (some b1)) ∧ w.cell? ⟨bt, 1, none⟩ = some (.map (some b2)) ∧ w.cell? ⟨bt, 2, none⟩ = some (.map (some b3)) := by
  refine ⟨?_, ?_, ?_⟩ <;> rw [cell_of_block h.cells] <;> rfl

theorem zeroBs (w : World) : (zeroValue 24).run Tryz.prog w = .ok (.slice none 0 0) w := by kernel_rfl
theorem zeroU64 (w : World) : (zeroValue 25).run Tryz.prog w = .ok (.int .u64 0) w := by kernel_rfl
theorem zeroAns (w : World) : (zeroValue 90).run Tryz.prog w = .ok (.pointer none) w := by kernel_rfl

set_option maxHeartbeats 400000 in
theorem there_ok (bt b1 b2 b3 : Nat) (T : Tbl) (w : World) (h : IsTbl w bt b1 b2 b3 T) :
    Calls Tryz.prog 32 #[.pointer (some ⟨bt, 0, none⟩)] w fun e w' => e = .returned (.bool true) ∧ w = w' := by
  obtain ⟨f0, f1, f2⟩ := h.field
  have hq : ∀ (w : World) (r : Option Nat), (binOp .neq 70 (.map r) (.map none)).run Tryz.prog w = .ok (.bool (!r.isNone)) w := fun w r => Go.run_neq_map_nil w _ _ _ r Tryz.underlying70
  clear h
  go_enter Tryz.func32, Tryz.ntmps32
  go_wp2
  go_ret
  exact ⟨rfl, rfl⟩
theorem there_nil (w : World) :
    Calls Tryz.prog 32 #[.pointer none] w fun e w' => e = .returned (.bool false) ∧ w = w' := by
  go_enter Tryz.func32, Tryz.ntmps32
  go_wp2
  go_ret
  exact ⟨rfl, rfl⟩

/-- What Who answers. -/
def Tbl.who (T : Tbl) (k : UInt8) (n : UInt64) : Int := if T.tokens k = some n then 0 else 9

set_option maxHeartbeats 1000000 in
theorem who_any (bt b1 b2 b3 : Nat) (T : Tbl) (k : UInt8) (n : UInt64) (w : World) (h : IsTbl w bt b1 b2 b3 T) :
    Calls Tryz.prog 13 #[.pointer (some ⟨bt, 0, none⟩), .int .u8 k.toNat, .int .u64 n.toNat] w fun e w' => e = .returned (.int .i64 (T.who k n)) ∧ w = w' := by
  obtain ⟨f0, f1, f2⟩ := h.field
  have hm2 := h.m2
  have HH := Lib.hid h
  clear h
  cases hk : T.tokens k with
  | none =>
    have hw : T.who k n = 9 := by unfold Tbl.who; rw [hk]; rfl
    rw [hw]
    clear hw
    have ht : tokF T.tokens k = none := by unfold tokF; rw [hk]; rfl
    have HT := Lib.hid ht
    clear ht hk
    go_enter Tryz.func13, Tryz.ntmps13
    go_wp2_with (first
      | (go_at_call 32; refine (there_ok bt b1 b2 b3 T _ HH.out).mono ?_; rintro e w' ⟨rfl, rfl⟩)
      | (at_lookup; refine wpList_lookup_f uk rfl _ _ 71 true rfl 25 Tryz.underlying71 (zeroU64 _) b2 _ rfl hm2 k rfl ?_; rw [HT.out]; simp only [Option.getD_none, Option.isSome_none, if_true])
      | fail)
    go_ret
    exact ⟨rfl, rfl⟩
  | some m =>
    have hw0 : T.who k m = 0 := by unfold Tbl.who; rw [hk, if_pos rfl]
    have hw9 : m ≠ n → T.who k n = 9 := fun hne => by unfold Tbl.who; rw [hk, if_neg (by simpa using hne)]
    have ht : tokF T.tokens k = some (.int .u64 m.toNat) := by unfold tokF; rw [hk]; rfl
    have HT := Lib.hid ht
    clear ht hk
    by_cases hmn : m = n
    · subst hmn
      rw [hw0]
      clear hw0 hw9
      go_enter Tryz.func13, Tryz.ntmps13
      go_wp2_with (first
        | (go_at_call 32; refine (there_ok bt b1 b2 b3 T _ HH.out).mono ?_; rintro e w' ⟨rfl, rfl⟩)
        | (at_lookup; refine wpList_lookup_f uk rfl _ _ 71 true rfl 25 Tryz.underlying71 (zeroU64 _) b2 _ rfl hm2 k rfl ?_; rw [HT.out]; simp only [Option.getD_some, Option.isSome_some, if_true])
        | fail)
      go_ret
      exact ⟨rfl, rfl⟩
    · have hne : ((m.toNat : Int) != (n.toNat : Int)) = true := by rw [bne_iff_ne]; exact fun h => hmn (UInt64.toNat_inj.1 (by omega))
      rw [hw9 hmn]
      clear hmn hw0 hw9
      go_enter Tryz.func13, Tryz.ntmps13
      go_wp2_with (first
        | (go_at_call 32; refine (there_ok bt b1 b2 b3 T _ HH.out).mono ?_; rintro e w' ⟨rfl, rfl⟩)
        | (at_lookup; refine wpList_lookup_f uk rfl _ _ 71 true rfl 25 Tryz.underlying71 (zeroU64 _) b2 _ rfl hm2 k rfl ?_; rw [HT.out]; simp only [Option.getD_some, Option.isSome_some, if_true])
        | fail)
      go_ret
      exact ⟨rfl, rfl⟩

/-- Is that one a bidder? -/
def Tbl.bidder (T : Tbl) (k : UInt8) : Bool := (T.secrets k).isSome && k.toNat != 0 && k.toNat != 255

end Go.Proofs.YthadgnaaipdpaaaGreatDoor
