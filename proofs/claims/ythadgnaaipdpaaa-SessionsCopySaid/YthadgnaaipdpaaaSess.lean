/- The package sessions: what its small functions do; conditions: those typed. -/
import Derived.Test.YthadgnaaipdpaaaBytesF
import Derived.Test.YthadgnaaipdpaaaMapF
import Derived.Deep.RegionHeld3
namespace Go.Proofs.Ythadgnaaipdpaaa
open Go.RowKit
set_option linter.unusedVariables false

/-- S is a set of blocks that hold maps. -/
def MapsOnly (S : Nat → Prop) (w : World) : Prop := ∀ k, S k → ∃ es c, w.heap[k]? = some (.map es c)
theorem MapsOnly.cell {S : Nat → Prop} {w : World} (h : MapsOnly S w) {p : Addr} {v : Value} (hp : w.cell? p = some v) : ¬ S p.block := by
  intro hs
  obtain ⟨es, c, e⟩ := h _ hs
  simp [World.cell?, e] at hp
theorem MapsOnly.cells {S : Nat → Prop} {w : World} (h : MapsOnly S w) {b : Nat} {C : Array Value} {e : TypeId} {fz : Nat × Nat} (hb : w.heap[b]? = some (.cells C e fz)) : ¬ S b := by
  intro hs
  obtain ⟨es, c, e⟩ := h _ hs
  rw [hb] at e
  cases e
theorem IsB.keep {S : Nat → Prop} {w w' : World} {a : Option Addr} {n c : Nat} {l : List UInt8} (h : IsB w a n c l) (ht : Touch S w w') (hm : MapsOnly S w) : IsB w' a n c l := by
  obtain ⟨h1, h2, h3, h4 | ⟨b, off, rfl, hlt, hc⟩⟩ := h
  · exact ⟨h1, h2, h3, .inl h4⟩
  · exact ⟨h1, h2, h3, .inr ⟨b, off, rfl, Nat.lt_of_lt_of_le hlt ht.size, fun i hi => ht.cell (hc i hi) (hm.cell (hc i hi))⟩⟩

noncomputable def uk : KeyEnc Try.prog 5 UInt8 := u8key Try.underlying5

structure Tbl where
  secrets : UInt8 → Option (List UInt8)
  tokens : UInt8 → Option UInt64
  kept : UInt8 → Option (UInt32 × List UInt8)

def SecRel (w : World) (f : UInt8 → Option Value) (s : UInt8 → Option (List UInt8)) : Prop := ∀ k, match s k with
  | none => f k = none
  | some l => ∃ a c, f k = some (.slice a l.length c) ∧ IsB w a l.length c l
def KeptRel (w : World) (f : UInt8 → Option Value) (s : UInt8 → Option (UInt32 × List UInt8)) : Prop := ∀ k, match s k with
  | none => f k = none
  | some x => ∃ g, f k = some (.pointer (some ⟨g, 0, none⟩)) ∧ w.heap[g]? = some (.cells #[.int .u32 x.1.toNat, .string (strB x.2)] 63 (0, 0))
def tokF (s : UInt8 → Option UInt64) : UInt8 → Option Value := fun k => (s k).map fun n => .int .u64 n.toNat
theorem SecRel.keep {S : Nat → Prop} {w w' : World} {f : UInt8 → Option Value} {s : UInt8 → Option (List UInt8)} (h : SecRel w f s) (ht : Touch S w w') (hm : MapsOnly S w) : SecRel w' f s := by
  intro k
  have := h k
  cases e : s k with
  | none => rw [e] at this; exact this
  | some l =>
    rw [e] at this
    obtain ⟨a, c, h1, h2⟩ := this
    exact ⟨a, c, h1, h2.keep ht hm⟩
theorem KeptRel.keep {S : Nat → Prop} {w w' : World} {f : UInt8 → Option Value} {s : UInt8 → Option (UInt32 × List UInt8)} (h : KeptRel w f s) (ht : Touch S w w') (hm : MapsOnly S w) : KeptRel w' f s := by
  intro k
  have := h k
  cases e : s k with
  | none => rw [e] at this; exact this
  | some l =>
    rw [e] at this
    obtain ⟨g, h1, h2⟩ := this
    exact ⟨g, h1, ht.heap h2 (hm.cells h2)⟩

/-- A table in memory: its struct in block bt, its maps in the blocks b1, b2, b3. -/
structure IsTbl (w : World) (bt b1 b2 b3 : Nat) (T : Tbl) : Prop where
  n12 : b1 ≠ b2
  n13 : b1 ≠ b3
  n23 : b2 ≠ b3
  cells : w.heap[bt]? = some (.cells #[.map (some b1), .map (some b2), .map (some b3)] 57 (0, 0))
  m1 : ∃ f, MapF uk w b1 f ∧ SecRel w f T.secrets
  m2 : MapF uk w b2 (tokF T.tokens)
  m3 : ∃ f, MapF uk w b3 f ∧ KeptRel w f T.kept
theorem IsTbl.keep {S : Nat → Prop} {w w' : World} {bt b1 b2 b3 : Nat} {T : Tbl} (h : IsTbl w bt b1 b2 b3 T) (ht : Touch S w w') (hm : MapsOnly S w) (h1 : ¬ S b1) (h2 : ¬ S b2) (h3 : ¬ S b3) : IsTbl w' bt b1 b2 b3 T := by
  obtain ⟨f, hf, hr⟩ := h.m1
  obtain ⟨g, hg, hs⟩ := h.m3
  exact ⟨h.n12, h.n13, h.n23, ht.heap h.cells (hm.cells h.cells), ⟨f, hf.touch uk ht h1, hr.keep ht hm⟩, h.m2.touch uk ht h2, ⟨g, hg.touch uk ht h3, hs.keep ht hm⟩⟩
theorem mapsNone (w : World) : MapsOnly (fun _ => False) w := fun _ h => h.elim
theorem IsTbl.below {w w' : World} {bt b1 b2 b3 : Nat} {T : Tbl} (h : IsTbl w bt b1 b2 b3 T) (hb : Below w.heap.size w w') : IsTbl w' bt b1 b2 b3 T :=
  h.keep (Touch.of_below (S := fun _ => False) hb) (mapsNone _) id id id
theorem MapF.block {w : World} {b : Nat} {f : UInt8 → Option Value} (h : MapF uk w b f) : ∃ es c, w.heap[b]? = some (.map es c) := by
  obtain ⟨es, c, hb, _⟩ := h
  exact ⟨es, c, hb⟩
theorem IsTbl.maps {w : World} {bt b1 b2 b3 : Nat} {T : Tbl} (h : IsTbl w bt b1 b2 b3 T) : MapsOnly (fun k => k = b1 ∨ k = b2 ∨ k = b3) w := by
  rintro k (rfl | rfl | rfl)
  · obtain ⟨f, hf, _⟩ := h.m1; exact hf.block
  · exact h.m2.block
  · obtain ⟨f, hf, _⟩ := h.m3; exact hf.block
theorem IsTbl.field {w : World} {bt b1 b2 b3 : Nat} {T : Tbl} (h : IsTbl w bt b1 b2 b3 T) :
    w.cell? ⟨bt, 0, none⟩ = some (.map (some b1)) ∧ w.cell? ⟨bt, 1, none⟩ = some (.map (some b2)) ∧ w.cell? ⟨bt, 2, none⟩ = some (.map (some b3)) := by
  refine ⟨?_, ?_, ?_⟩ <;> rw [cell_of_block h.cells] <;> rfl

theorem zeroBs (w : World) : (zeroValue 24).run Try.prog w = .ok (.slice none 0 0) w := by kernel_rfl
theorem zeroU64 (w : World) : (zeroValue 25).run Try.prog w = .ok (.int .u64 0) w := by kernel_rfl
theorem zeroAns (w : World) : (zeroValue 61).run Try.prog w = .ok (.pointer none) w := by kernel_rfl

set_option maxHeartbeats 400000 in
theorem there_ok (bt b1 b2 b3 : Nat) (T : Tbl) (w : World) (h : IsTbl w bt b1 b2 b3 T) :
    Calls Try.prog 16 #[.pointer (some ⟨bt, 0, none⟩)] w fun e w' => e = .returned (.bool true) ∧ w = w' := by
  obtain ⟨f0, f1, f2⟩ := h.field
  have hq : ∀ (w : World) (r : Option Nat), (binOp .neq 53 (.map r) (.map none)).run Try.prog w = .ok (.bool (!r.isNone)) w := fun w r => Go.run_neq_map_nil w _ _ _ r Try.underlying53
  clear h
  go_enter Try.func16, Try.ntmps16
  go_wp2
  go_ret
  exact ⟨rfl, rfl⟩
theorem there_nil (w : World) :
    Calls Try.prog 16 #[.pointer none] w fun e w' => e = .returned (.bool false) ∧ w = w' := by
  go_enter Try.func16, Try.ntmps16
  go_wp2
  go_ret
  exact ⟨rfl, rfl⟩

/-- What Who answers. -/
def Tbl.who (T : Tbl) (k : UInt8) (n : UInt64) : Int := if T.tokens k = some n then 0 else 9

set_option maxHeartbeats 1000000 in
theorem who_any (bt b1 b2 b3 : Nat) (T : Tbl) (k : UInt8) (n : UInt64) (w : World) (h : IsTbl w bt b1 b2 b3 T) :
    Calls Try.prog 8 #[.pointer (some ⟨bt, 0, none⟩), .int .u8 k.toNat, .int .u64 n.toNat] w fun e w' => e = .returned (.int .i64 (T.who k n)) ∧ w = w' := by
  obtain ⟨f0, f1, f2⟩ := h.field
  have hm2 := h.m2
  have HH := Lib.hid h
  clear h
  cases hk : T.tokens k with
  | none =>
    have hw : T.who k n = 9 := by unfold Tbl.who; rw [hk]; rfl
    rw [hw]
    clear hw
    have ht : tokF T.tokens k = none := by unfold tokF; rw [hk]; rfl
    have HT := Lib.hid ht
    clear ht hk
    go_enter Try.func8, Try.ntmps8
    go_wp2_with (first
      | (go_at_call 16; refine (there_ok bt b1 b2 b3 T _ HH.out).mono ?_; rintro e w' ⟨rfl, rfl⟩)
      | (at_lookup; refine wpList_lookup_f uk rfl _ _ 54 true rfl 25 Try.underlying54 (zeroU64 _) b2 _ rfl hm2 k rfl ?_; rw [HT.out]; simp only [Option.getD_none, Option.isSome_none, if_true])
      | fail)
    go_ret
    exact ⟨rfl, rfl⟩
  | some m =>
    have hw0 : T.who k m = 0 := by unfold Tbl.who; rw [hk, if_pos rfl]
    have hw9 : m ≠ n → T.who k n = 9 := fun hne => by unfold Tbl.who; rw [hk, if_neg (by simpa using hne)]
    have ht : tokF T.tokens k = some (.int .u64 m.toNat) := by unfold tokF; rw [hk]; rfl
    have HT := Lib.hid ht
    clear ht hk
    by_cases hmn : m = n
    · subst hmn
      rw [hw0]
      clear hw0 hw9
      go_enter Try.func8, Try.ntmps8
      go_wp2_with (first
        | (go_at_call 16; refine (there_ok bt b1 b2 b3 T _ HH.out).mono ?_; rintro e w' ⟨rfl, rfl⟩)
        | (at_lookup; refine wpList_lookup_f uk rfl _ _ 54 true rfl 25 Try.underlying54 (zeroU64 _) b2 _ rfl hm2 k rfl ?_; rw [HT.out]; simp only [Option.getD_some, Option.isSome_some, if_true])
        | fail)
      go_ret
      exact ⟨rfl, rfl⟩
    · have hne : ((m.toNat : Int) != (n.toNat : Int)) = true := by rw [bne_iff_ne]; exact fun h => hmn (UInt64.toNat_inj.1 (by omega))
      rw [hw9 hmn]
      clear hmn hw0 hw9
      go_enter Try.func8, Try.ntmps8
      go_wp2_with (first
        | (go_at_call 16; refine (there_ok bt b1 b2 b3 T _ HH.out).mono ?_; rintro e w' ⟨rfl, rfl⟩)
        | (at_lookup; refine wpList_lookup_f uk rfl _ _ 54 true rfl 25 Try.underlying54 (zeroU64 _) b2 _ rfl hm2 k rfl ?_; rw [HT.out]; simp only [Option.getD_some, Option.isSome_some, if_true])
        | fail)
      go_ret
      exact ⟨rfl, rfl⟩

/-- Is that one a bidder? -/
def Tbl.bidder (T : Tbl) (k : UInt8) : Bool := (T.secrets k).isSome && k.toNat != 0 && k.toNat != 255

end Go.Proofs.Ythadgnaaipdpaaa
