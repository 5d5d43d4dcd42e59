/- Plain facts for the statement SessionsCopy; conditions: those typed. -/
import Derived.Test.YthadgnaaipdpaaaSessSeqA
import Derived.Test.YthadgnaaipdpaaaSessC
namespace Go.Proofs.Ythadgnaaipdpaaa
open Go.RowKit
set_option linter.unusedVariables false

/-- A login with a bidder's own secret. -/
noncomputable def Tbl.log (T : Tbl) (k : UInt8) (l d : List UInt8) : Tbl := if l = [] then T else { T with tokens := fun j => if j = k then some (tok d) else T.tokens j }
def logN (l d : List UInt8) : UInt64 := if l = [] then 0 else tok d
def logE (l : List UInt8) : Int := if l = [] then 9 else 0
theorem Tbl.log_secrets (T : Tbl) (k : UInt8) (l d : List UInt8) : (T.log k l d).secrets = T.secrets := by unfold Tbl.log; split <;> rfl
theorem Tbl.log_kept (T : Tbl) (k : UInt8) (l d : List UInt8) : (T.log k l d).kept = T.kept := by unfold Tbl.log; split <;> rfl
theorem Tbl.log_bidder (T : Tbl) (k j : UInt8) (l d : List UInt8) : (T.log k l d).bidder j = T.bidder j := by unfold Tbl.bidder; rw [Tbl.log_secrets]
theorem Tbl.log_short (T : Tbl) (k : UInt8) (l d : List UInt8) (h : T.short) : (T.log k l d).short := by unfold Tbl.short; rw [Tbl.log_kept]; exact h
theorem Tbl.log_who (T : Tbl) (k : UInt8) (l d : List UInt8) (n : UInt64) (h : l ≠ []) : (T.log k l d).who k n = if tok d = n then 0 else 9 := by
  unfold Tbl.log
  rw [if_neg h]
  exact who_self T k (tok d) n
theorem Tbl.put_who (T : Tbl) (k j : UInt8) (s : UInt32) (r : List UInt8) (n : UInt64) : (T.put k s r).who j n = T.who j n := rfl

theorem login_l (bt b1 b2 b3 : Nat) (T : Tbl) (k : UInt8) (a : Option Addr) (c : Nat) (l : List UInt8) (d : List UInt8) (w : World) (h : IsTbl w bt b1 b2 b3 T) (hl : IsB w a l.length c l) (hk : T.secrets k = some l) (hd : d.length = 16) :
    Calls Try.prog 9 #[.pointer (some ⟨bt, 0, none⟩), .int .u8 k.toNat, .slice a l.length c, .agg (bcells d).toArray] w fun e w' => e = .returned (.tuple #[.int .u64 (logN l d).toNat, .int .i64 (logE l)]) ∧ Touch (fun k => k = b2) w w' ∧ IsTbl w' bt b1 b2 b3 (T.log k l d) := by
  unfold logN logE Tbl.log
  by_cases h0 : l = []
  · rw [if_pos h0, if_pos h0, if_pos h0]
    refine (login_no bt b1 b2 b3 T k a _ c l d w h hl (fun x => x.2 h0)).mono ?_
    rintro e w' ⟨rfl, hb⟩
    exact ⟨rfl, Touch.of_below hb, h.below hb⟩
  · rw [if_neg h0, if_neg h0, if_neg h0]
    exact login_yes bt b1 b2 b3 T k a _ c l d w h hl ⟨hk, h0⟩ hd

/-- What the statement's own variables hold. -/
structure CpSt (w : World) (bz bd : Nat) (cs dL : List Value) (sb i : Nat) (a : Option Addr) (c : Nat) (l : List UInt8) (pa : Option Addr) (pc : Nat) (p : List UInt8) : Prop where
  z : w.heap[bz]? = some (.cells cs.toArray 45 (0, 0))
  d : w.heap[bd]? = some (.cells dL.toArray 30 (0, 0))
  s : w.cell? ⟨sb, i, none⟩ = some (.slice a l.length c)
  l : IsB w a l.length c l
  p : IsB w pa p.length pc p
theorem CpSt.keep {S : Nat → Prop} {w w' : World} {bz bd : Nat} {cs dL : List Value} {sb i : Nat} {a : Option Addr} {c : Nat} {l : List UInt8} {pa : Option Addr} {pc : Nat} {p : List UInt8} (h : CpSt w bz bd cs dL sb i a c l pa pc p) (ht : Touch S w w') (hm : MapsOnly S w) : CpSt w' bz bd cs dL sb i a c l pa pc p :=
  ⟨ht.heap h.z (hm.cells h.z), ht.heap h.d (hm.cells h.d), ht.cell h.s (hm.cell h.s), h.l.keep ht hm, h.p.keep ht hm⟩
theorem CpSt.below {w w' : World} {bz bd : Nat} {cs dL : List Value} {sb i : Nat} {a : Option Addr} {c : Nat} {l : List UInt8} {pa : Option Addr} {pc : Nat} {p : List UInt8} (h : CpSt w bz bd cs dL sb i a c l pa pc p) (hb : Below w.heap.size w w') : CpSt w' bz bd cs dL sb i a c l pa pc p := h.keep (Touch.of_below (S := fun _ => False) hb) (mapsNone _)
/-- What a login's region loads. -/
theorem CpSt.log0 {w : World} {bz bd : Nat} {cs dL : List Value} {sb i : Nat} {a : Option Addr} {c : Nat} {l : List UInt8} {pa : Option Addr} {pc : Nat} {p : List UInt8} (h : CpSt w bz bd cs dL sb i a c l pa pc p)
    {cv : List Value} {ra : Option Addr} {rn rc : Nat} {uv : UInt64} {sa : Option Addr} {sn sc : Nat} {aa : Option Addr} {an ac : Nat} {ua : Option Addr} {un uc : Nat} {who : UInt8} {s lx : UInt32} {pn : Nat} {d0 d1 : List UInt8}
    (hcs : cs = seqsL cv who s lx pa pn pc) (hcv : cv = cfgL ra rn rc sa sn sc aa an ac ua un uc uv) (hdL : dL = bcells d0 ++ bcells d1) :
    w.rangeAt bd 0 (bcells d0) ∧ w.cell? ⟨bz, 1, none⟩ = some (.slice sa sn sc) ∧ w.cell? ⟨sb, i, none⟩ = some (.slice a l.length c) :=
  ⟨rangeAt_mid h.d (by rw [hdL]; simp), (seqs_cells h.z hcs hcv).1, h.s⟩
theorem CpSt.log1 {w : World} {bz bd : Nat} {cs dL : List Value} {sb i : Nat} {a : Option Addr} {c : Nat} {l : List UInt8} {pa : Option Addr} {pc : Nat} {p : List UInt8} (h : CpSt w bz bd cs dL sb i a c l pa pc p)
    {cv : List Value} {ra : Option Addr} {rn rc : Nat} {uv : UInt64} {sa : Option Addr} {sn sc : Nat} {aa : Option Addr} {an ac : Nat} {ua : Option Addr} {un uc : Nat} {who : UInt8} {s lx : UInt32} {pn : Nat} {d0 d1 : List UInt8}
    (hcs : cs = seqsL cv who s lx pa pn pc) (hcv : cv = cfgL ra rn rc sa sn sc aa an ac ua un uc uv) (hdL : dL = bcells d0 ++ bcells d1) (hd0 : d0.length = 16) (hd1 : d1.length = 16) :
    w.rangeAt bd 16 (bcells d1) ∧ w.cell? ⟨bz, 1, none⟩ = some (.slice sa sn sc) ∧ w.cell? ⟨sb, i, none⟩ = some (.slice a l.length c) :=
  ⟨rangeAt_mid h.d (by rw [hdL]; simp [bcells_length, hd0]; exact List.take_of_length_le (by rw [bcells_length]; omega)), (seqs_cells h.z hcs hcv).1, h.s⟩
theorem CpSt.rep {w : World} {bz bd : Nat} {cs dL : List Value} {sb i : Nat} {a : Option Addr} {c : Nat} {l : List UInt8} {pa : Option Addr} {pc : Nat} {p : List UInt8} (h : CpSt w bz bd cs dL sb i a c l pa pc p)
    {cv : List Value} {ra : Option Addr} {rn rc : Nat} {uv : UInt64} {sa : Option Addr} {sn sc : Nat} {aa : Option Addr} {an ac : Nat} {ua : Option Addr} {un uc : Nat} {who : UInt8} {s lx : UInt32}
    (hcs : cs = seqsL cv who s lx pa p.length pc) (hcv : cv = cfgL ra rn rc sa sn sc aa an ac ua un uc uv) :
    w.cell? ⟨bz, 6, none⟩ = some (.int .u32 s.toNat) ∧ w.cell? ⟨bz, 8, none⟩ = some (.slice pa p.length pc) :=
  ⟨(seqs_cells h.z hcs hcv).2.2.1, (seqs_cells h.z hcs hcv).2.2.2.2⟩
theorem IsTbl.lts {w : World} {bt b1 b2 b3 : Nat} {T : Tbl} (h : IsTbl w bt b1 b2 b3 T) : bt < w.heap.size ∧ b1 < w.heap.size ∧ b2 < w.heap.size ∧ b3 < w.heap.size := by
  obtain ⟨e1, k1, e2, k2, e3, k3, h1, h2, h3⟩ := clones h
  exact ⟨lt_of_heap h.cells, lt_of_heap h1, lt_of_heap h2, lt_of_heap h3⟩
theorem IsTbl.only {w : World} {bt b1 b2 b3 : Nat} {T : Tbl} (h : IsTbl w bt b1 b2 b3 T) : MapsOnly (fun k => k = b2) w ∧ MapsOnly (fun k => k = b3) w := ⟨fun k hk => h.maps k (.inr (.inl hk)), fun k hk => h.maps k (.inr (.inr hk))⟩
theorem u8_pred (k : Nat) (hk : k < 8) : IntKind.u8.wrap (((UInt8.ofNat (k + 1)).toNat : Int) - 1) = (k : Int) := by
  rw [IntKind.wrap_u8']; simp; omega

theorem seqR_same (T : Tbl) (k : UInt8) (s : UInt32) (r : List UInt8) (h : T.bidder k = true) : (T.put k s r).seqR k s s = if s = 0 then [] else r := by
  rw [Tbl.put_seqR, Tbl.seqE_same T k s h]
  by_cases h0 : s = 0
  · rw [if_pos h0, if_pos h0, if_neg (by simp)]
  · rw [if_neg h0, if_neg h0, if_pos ⟨rfl, rfl⟩]

end Go.Proofs.Ythadgnaaipdpaaa
