/- The package nums: Get where there is too little,PutList,PutBytes;conditions: those typed. -/
import Derived.Test.YtmmmjohoihpbeaaGreatQOGSlotsRGSlotsGetGSlotsLaw2
import Derived.Test.YtmmmjohoihpbeaaGreatQOSlotsM
import Derived.Test.YtmmmjohoihpbeaaGreatQONumsGet
import Derived.Test.YtmmmjohoihpbeaaGreatQOGHeap
import Derived.Test.YtmmmjohoihpbeaaGreatQOUp
import Derived.Test.YtmmmjohoihpbeaaGreatQOFull
namespace Go.Proofs.YtmmmjohoihpbeaaGreat
open Go.RowKit
set_option linter.unusedVariables false
set_option linter.unusedSimpArgs false
/- The package nums: Put,PutList: what they make is new;conditions: those typed. -/
section
theorem owns_low {w:World} {B B' e sz n:Nat} {v:Value} {xs:List Value} (h:w.ownsRow B e sz v n xs) (hb:B'≤B):w.ownsRow B' e sz v n xs:=by
 refine ⟨h.1,?_⟩
 rcases h.2 with h0 | ⟨g,cap,cur,hv,hg,h3⟩
 · exact .inl h0
 · exact .inr ⟨g,cap,cur,hv,Nat.le_trans hb hg,h3⟩
theorem IsI.clip {w:World} {a:Option Addr} {n c:Nat} {l:List Int} (h:IsI w a n c l):IsI w a n n l:=by
 obtain ⟨rfl,h1,h2,h3⟩:=h
 refine ⟨rfl,Nat.le_refl _,Nat.le_trans h1 h2,?_⟩
 rcases h3 with ⟨h,_⟩ | h
 · exact .inl ⟨h,fun _=>by rw [h];rfl⟩
 · exact .inr h
/- The package stores: a reader of bytes;conditions: those typed. -/
variable {P:Nat→Prop}
theorem IsI.touch {S:Nat→Prop} {w w':World} {a:Option Addr} {n c:Nat} {l:List Int} (h:IsI w a n c l) (ht:Touch S w w') (hs:∀ b off,a=some ⟨b,off,none⟩→l≠[]→¬ S b):IsI w' a n c l:=by
 obtain ⟨h1,h2,h3,h4 | ⟨b,off,rfl,hlt,hc⟩⟩:=h
 · exact ⟨h1,h2,h3,.inl h4⟩
 · by_cases hl:l=[]
   · exact ⟨h1,h2,h3,.inl ⟨hl,fun h=>by cases h⟩⟩
   · exact ⟨h1,h2,h3,.inr ⟨b,off,rfl,Nat.lt_of_lt_of_le hlt ht.size,fun i hi=>ht.cell (hc i hi) (hs b off rfl hl)⟩⟩
/- The package stores: what a reader reads;conditions: those typed. -/
variable {P:Nat→Prop}
/- The package stores: the ways of a reader,one behind the other;conditions: those typed. -/
variable {P:Nat→Prop}
end
end Go.Proofs.YtmmmjohoihpbeaaGreat
