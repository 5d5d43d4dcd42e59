/- The package stores: get,twin;conditions: those typed. -/
import Derived.Test.YtmmmjohoihpbeaaGreatRGStPut
import Derived.Test.YtmmmjohoihpbeaaGreatRGStOrdJwAJwBJwGGStRecJwEq
import Derived.Test.YtmmmjohoihpbeaaGreatRGStCGStCloStArg2
import Derived.Test.YtmmmjohoihpbeaaGreatRGHeap
import Derived.Test.YtmmmjohoihpbeaaGreatRGSlotsRGSlotsGetGSlotsLaw2
namespace Go.Proofs.YtmmmjohoihpbeaaGreat
open Go.RowKit
set_option linter.unusedVariables false
set_option linter.unusedSimpArgs false
/- Lists of lists of numbers in memory;conditions: those typed. -/
def IIv (w:World) (P:Nat→Prop) (vs:List Value) (L:List (List Int)):Prop:=vs.length=L.length∧∀ i (h:i<L.length),∃ a n c,vs[i]?=some (.slice a n c)∧IsIp w P a n c L[i]
theorem IIv.touch {S P:Nat→Prop} {w w':World} {vs:List Value} {L:List (List Int)} (h:IIv w P vs L) (ht:Touch S w w') (hs:∀ k,P k→¬ S k):IIv w' P vs L :=
 ⟨h.1,fun i hi=>by obtain ⟨a,n,c,h1,h2⟩:=h.2 i hi;exact ⟨a,n,c,h1,h2.touch ht hs⟩⟩
theorem IIv.below {P:Nat→Prop} {w w':World} {vs:List Value} {L:List (List Int)} (h:IIv w P vs L) (hb:Below w.heap.size w w'):IIv w' P vs L :=
 ⟨h.1,fun i hi=>by obtain ⟨a,n,c,h1,h2⟩:=h.2 i hi;exact ⟨a,n,c,h1,h2.below hb⟩⟩
theorem IIv.one {w:World} {P:Nat→Prop} {vs:List Value} {L:List (List Int)} (h:IIv w P vs L):∀ v ∈ vs,v.oneCell'=true:=by
 intro v hv
 obtain ⟨i,hi,rfl⟩:=List.getElem_of_mem hv
 obtain ⟨a,n,c,h1,_⟩:=h.2 i (by rw [← h.1];exact hi)
 rw [List.getElem?_eq_getElem hi] at h1
 rw [Option.some.inj h1];rfl
def IsIIp (w:World) (P:Nat→Prop) (a:Option Addr) (n c:Nat) (vs:List Value) (L:List (List Int)):Prop :=
 n=L.length∧L.length≤c∧c≤maxLen∧IIv w P vs L∧(L=[]∨∃ b off,a=some ⟨b,off,none⟩∧P b∧b<w.heap.size∧∀ i (h:i<vs.length),w.cell? ⟨b,off+i,none⟩=some vs[i])
theorem IsIIp.touch {S P:Nat→Prop} {w w':World} {a:Option Addr} {n c:Nat} {vs:List Value} {L:List (List Int)} (h:IsIIp w P a n c vs L) (ht:Touch S w w') (hs:∀ k,P k→¬ S k):IsIIp w' P a n c vs L:=by
 obtain ⟨h1,h2,h3,h4,h5 | ⟨b,off,rfl,hP,hlt,hc⟩⟩:=h
 · exact ⟨h1,h2,h3,h4.touch ht hs,.inl h5⟩
 · exact ⟨h1,h2,h3,h4.touch ht hs,.inr ⟨b,off,rfl,hP,Nat.lt_of_lt_of_le hlt ht.size,fun i hi=>ht.cell (hc i hi) (hs b hP)⟩⟩
theorem IsIIp.below {P:Nat→Prop} {w w':World} {a:Option Addr} {n c:Nat} {vs:List Value} {L:List (List Int)} (h:IsIIp w P a n c vs L) (hb:Below w.heap.size w w'):IsIIp w' P a n c vs L:=h.touch (Touch.of_below (S:=fun _=>False) hb) (fun _ _=>id)
theorem IsIIp.at {w:World} {P:Nat→Prop} {a:Option Addr} {n c:Nat} {vs:List Value} {L:List (List Int)} (h:IsIIp w P a n c vs L):At w a vs:=by
 obtain ⟨h1,h2,h3,h4,h5 | ⟨b,off,rfl,hP,hlt,hc⟩⟩:=h
 · have:vs=[]:=List.eq_nil_of_length_eq_zero (by rw [h4.1,h5];rfl)
   rw [this];exact At.nil _ _
 · exact At.of_cells hc
/- The package stores: Make;conditions: those typed. -/
/- Layer 20: what a new store has;what lives does;conditions: those typed. -/
/- The package stores: Open;conditions: those typed. -/
/- Layer 20: some,made,lives;conditions: those typed. -/
/- Layer 20: lives;conditions: those typed. -/
/- The package stores: a store that is not there;conditions: those typed. -/
theorem info_mkt:(Tryz.prog.info? 25).map (·.size)=some 3:=by kernel_rfl
theorem mkt_one (ra sa aa:Option Addr) (rn rc sn sc an ac:Nat):∀ v ∈ [Value.slice ra rn rc,.slice sa sn sc,.slice aa an ac],v.oneCell'=true:=by intro v hv;simp at hv;rcases hv with rfl | rfl | rfl <;> rfl
end Go.Proofs.YtmmmjohoihpbeaaGreat
