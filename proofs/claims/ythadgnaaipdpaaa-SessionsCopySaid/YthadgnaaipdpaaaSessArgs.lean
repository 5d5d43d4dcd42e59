/- Opening the arguments of layer 23's statements; no condition. -/
import Derived.Test.YthadgnaaipdpaaaLift
import Derived.Test.YthadgnaaipdpaaaSessSeqA
namespace Go.Proofs.Ythadgnaaipdpaaa
open Go.ChangeShapes Go.WideShapes Go.ChangeAt Go.RowKit Go.Deep
set_option linter.unusedVariables false

theorem cfg_open {w : World} {cs : List Value} (o : Opened Try.prog w 27 cs) : ∃ ra rn rc rl sa sn sc L aa an ac ad ua un uc au uv, cs = cfgL ra rn rc sa sn sc aa an ac ua un uc uv ∧ IsI w ra rn rc rl ∧ IsBB w 0 sa sn sc L ∧ IsB w aa an ac ad ∧ IsB w ua un uc au ∧
    (∀ l ∈ L, l.length ≤ 140737488351232) ∧ ad.length ≤ 140737488351232 ∧ au.length ≤ 140737488351232 := by
  obtain ⟨hl, hf⟩ := o.struct Try.underlying27
  have hl' : cs.length = 5 := hl.trans (by kernel_rfl)
  have k : ∀ t, Try.prog.cellsOf t = 1 → ∀ x, Opened Try.prog w t ((cs.drop x).take (Try.prog.cellsOf t)) → Opened Try.prog w t ((cs.drop x).take 1) := fun t ht x h => by rwa [ht] at h
  obtain ⟨ra, rn, rc, rl, e0, h0, _⟩ := (k _ (by kernel_rfl) 0 (hf 0 _ rfl)).ints Try.underlying22 Try.underlying3 (by kernel_rfl) (by kernel_rfl)
  obtain ⟨sa, sn, sc, L, e1, h1, m1⟩ := (k _ (by kernel_rfl) 1 (hf 1 _ rfl)).bytess Try.underlying23 Try.underlying24 Try.underlying5 (by kernel_rfl) (by kernel_rfl) (by kernel_rfl)
  obtain ⟨aa, an, ac, ad, e2, h2, m2⟩ := (k _ (by kernel_rfl) 2 (hf 2 _ rfl)).bytes Try.underlying24 Try.underlying5 (by kernel_rfl) (by kernel_rfl)
  obtain ⟨ua, un, uc, au, e3, h3, m3⟩ := (k _ (by kernel_rfl) 3 (hf 3 _ rfl)).bytes Try.underlying24 Try.underlying5 (by kernel_rfl) (by kernel_rfl)
  obtain ⟨uv, e4⟩ := (k _ (by kernel_rfl) 4 (hf 4 _ rfl)).u64 Try.underlying25
  refine ⟨ra, rn, rc, rl, sa, sn, sc, L, aa, an, ac, ad, ua, un, uc, au, uv, ?_, h0, h1, h2, h3, m1, m2, m3⟩
  have : cs = cs.drop 0 := rfl
  rw [this, drop_piece cs 0 1, e0, drop_piece cs (0 + 1) 1, e1, drop_piece cs (0 + 1 + 1) 1, e2, drop_piece cs (0 + 1 + 1 + 1) 1, e3, drop_piece cs (0 + 1 + 1 + 1 + 1) 1, e4, List.drop_eq_nil_of_le (by omega)]
  rfl

theorem draw_open {w : World} {cs : List Value} (o : Opened Try.prog w 29 cs) : ∃ d : List UInt8, d.length = 16 ∧ cs = bcells d := o.u8s Try.underlying29 Try.underlying5 (by kernel_rfl) (by kernel_rfl)

theorem draws_open {w : World} {cs : List Value} (o : Opened Try.prog w 30 cs) : ∃ d0 d1 : List UInt8, d0.length = 16 ∧ d1.length = 16 ∧ cs = bcells d0 ++ bcells d1 := by
  obtain ⟨hl, hx⟩ := o.array Try.underlying30
  have hl' : cs.length = 32 := hl.trans (by kernel_rfl)
  have e16 : Try.prog.cellsOf 29 = 16 := by kernel_rfl
  obtain ⟨d0, h0, e0⟩ := draw_open (hx 0 (by omega))
  obtain ⟨d1, h1, e1⟩ := draw_open (hx 1 (by omega))
  rw [e16] at e0 e1
  refine ⟨d0, d1, h0, h1, ?_⟩
  have : cs = cs.drop 0 := rfl
  have e0' : (cs.drop 0).take 16 = bcells d0 := e0
  have e1' : (cs.drop (0 + 16)).take 16 = bcells d1 := e1
  rw [this, drop_piece cs 0 16, e0', drop_piece cs (0 + 16) 16, e1', List.drop_eq_nil_of_le (by omega), List.append_nil]

theorem logs_open {w : World} {r : Reach} {b0 : Nat} {v : Value} (hv : Value.okWide Try.prog w r b0 32 v) (o : Opened Try.prog w 32 v.cells.toList) :
    ∃ cs cv dL ra rn rc rl sa sn sc L aa an ac ad ua un uc au uv who other d0 d1, v = .agg cs.toArray ∧ cv = cfgL ra rn rc sa sn sc aa an ac ua un uc uv ∧ cs = cv ++ [.int .u8 (who : UInt8).toNat, .int .u8 (other : UInt8).toNat] ++ dL ∧ dL = bcells d0 ++ bcells d1 ∧ d0.length = 16 ∧ d1.length = 16 ∧ IsI w ra rn rc rl ∧ IsBB w 0 sa sn sc L ∧ IsB w aa an ac ad ∧ IsB w ua un uc au ∧
    (∀ l ∈ L, l.length ≤ 140737488351232) ∧ ad.length ≤ 140737488351232 ∧ au.length ≤ 140737488351232 := by
  obtain ⟨cs, rfl, o'⟩ := Opened.structV Try.underlying32 hv o
  obtain ⟨hl, hf⟩ := o'.struct Try.underlying32
  have hl' : cs.length = 39 := hl.trans (by kernel_rfl)
  have k : ∀ t n, Try.prog.cellsOf t = n → ∀ x, Opened Try.prog w t ((cs.drop x).take (Try.prog.cellsOf t)) → Opened Try.prog w t ((cs.drop x).take n) := fun t n ht x h => by rwa [ht] at h
  obtain ⟨ra, rn, rc, rl, sa, sn, sc, L, aa, an, ac, ad, ua, un, uc, au, uv, e0, h0, h1, h2, h3, m1, m2, m3⟩ := cfg_open (k _ 5 (by kernel_rfl) 0 (hf 0 _ rfl))
  obtain ⟨who, e1⟩ := (k _ 1 (by kernel_rfl) 5 (hf 1 _ rfl)).u8 Try.underlying5
  obtain ⟨other, e2⟩ := (k _ 1 (by kernel_rfl) 6 (hf 2 _ rfl)).u8 Try.underlying5
  obtain ⟨d0, d1, g0, g1, e3⟩ := draws_open (k _ 32 (by kernel_rfl) 7 (hf 3 _ rfl))
  refine ⟨cs, _, _, ra, rn, rc, rl, sa, sn, sc, L, aa, an, ac, ad, ua, un, uc, au, uv, who, other, d0, d1, rfl, rfl, ?_, rfl, g0, g1, h0, h1, h2, h3, m1, m2, m3⟩
  have : cs = cs.drop 0 := rfl
  rw [this, drop_piece cs 0 5, e0, drop_piece cs (0 + 5) 1, e1, drop_piece cs (0 + 5 + 1) 1, e2, drop_piece cs (0 + 5 + 1 + 1) 32, e3, List.drop_eq_nil_of_le (by omega)]
  simp

theorem seqs_open {w : World} {r : Reach} {b0 : Nat} {v : Value} (hv : Value.okWide Try.prog w r b0 45 v) (o : Opened Try.prog w 45 v.cells.toList) :
    ∃ cs cv ra rn rc rl sa sn sc L aa an ac ad ua un uc au uv who s l pa pn pc p, v = .agg cs.toArray ∧ cv = cfgL ra rn rc sa sn sc aa an ac ua un uc uv ∧ cs = seqsL cv who s l pa pn pc ∧ IsI w ra rn rc rl ∧ IsBB w 0 sa sn sc L ∧ IsB w aa an ac ad ∧ IsB w ua un uc au ∧ IsB w pa pn pc p ∧
    (∀ l ∈ L, l.length ≤ 140737488351232) ∧ ad.length ≤ 140737488351232 ∧ au.length ≤ 140737488351232 ∧ p.length ≤ 140737488351232 := by
  obtain ⟨cs, rfl, o'⟩ := Opened.structV Try.underlying45 hv o
  obtain ⟨hl, hf⟩ := o'.struct Try.underlying45
  have hl' : cs.length = 9 := hl.trans (by kernel_rfl)
  have k : ∀ t n, Try.prog.cellsOf t = n → ∀ x, Opened Try.prog w t ((cs.drop x).take (Try.prog.cellsOf t)) → Opened Try.prog w t ((cs.drop x).take n) := fun t n ht x h => by rwa [ht] at h
  obtain ⟨ra, rn, rc, rl, sa, sn, sc, L, aa, an, ac, ad, ua, un, uc, au, uv, e0, h0, h1, h2, h3, m1, m2, m3⟩ := cfg_open (k _ 5 (by kernel_rfl) 0 (hf 0 _ rfl))
  obtain ⟨who, e1⟩ := (k _ 1 (by kernel_rfl) 5 (hf 1 _ rfl)).u8 Try.underlying5
  obtain ⟨s, e2⟩ := (k _ 1 (by kernel_rfl) 6 (hf 2 _ rfl)).u32 Try.underlying43
  obtain ⟨l, e3⟩ := (k _ 1 (by kernel_rfl) 7 (hf 3 _ rfl)).u32 Try.underlying43
  obtain ⟨pa, pn, pc, p, e4, h4, m4⟩ := (k _ 1 (by kernel_rfl) 8 (hf 4 _ rfl)).bytes Try.underlying24 Try.underlying5 (by kernel_rfl) (by kernel_rfl)
  refine ⟨cs, _, ra, rn, rc, rl, sa, sn, sc, L, aa, an, ac, ad, ua, un, uc, au, uv, who, s, l, pa, pn, pc, p, rfl, rfl, ?_, h0, h1, h2, h3, h4, m1, m2, m3, m4⟩
  have : cs = cs.drop 0 := rfl
  rw [this, drop_piece cs 0 5, e0, drop_piece cs (0 + 5) 1, e1, drop_piece cs (0 + 5 + 1) 1, e2, drop_piece cs (0 + 5 + 1 + 1) 1, e3, drop_piece cs (0 + 5 + 1 + 1 + 1) 1, e4, List.drop_eq_nil_of_le (by omega)]
  simp [seqsL]

end Go.Proofs.Ythadgnaaipdpaaa
