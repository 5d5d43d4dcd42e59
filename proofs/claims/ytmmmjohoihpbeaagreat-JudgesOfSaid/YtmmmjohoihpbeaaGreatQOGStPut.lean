/- The package stores: put;conditions: those typed. -/
import Derived.Test.YtmmmjohoihpbeaaGreatQOGStNGStN2
import Derived.Test.YtmmmjohoihpbeaaGreatQOGStCGStCloStArg2
import Derived.Test.YtmmmjohoihpbeaaGreatQOGSlotsRGSlotsGetGSlotsLaw2
import Derived.Deep.RegionHeld3
import Derived.Deep.DeepCutAuto
import Derived.Deep.RegionLaw
namespace Go.Proofs.YtmmmjohoihpbeaaGreat
section
open Go.RowKit
set_option linter.unusedVariables false
set_option linter.unusedSimpArgs false
theorem At.later {w w':World} {a:Option Addr} {l:List Value} (h:At w a l) (hb:Below w.heap.size w w'):At w' a l:=fun j u hu=>by
 obtain ⟨b,rfl,hc⟩:=h j u hu
 exact ⟨b,rfl,(hb.cell (World.block_lt_of_cell? _ _ hc)).trans hc⟩
theorem At.drew {w:World} {a:Option Addr} {l:List Value} (h:At w a l):At w.drew a l:=h.later (Below.refl _ _).drew
/- The package stores: the way that reads the secrets;conditions: those typed. -/
open Go.RowKit
variable {P:Nat→Prop}
set_option linter.unusedVariables false
set_option linter.unusedSimpArgs false
theorem owns_ne {w:World} {B B' e e' sz sz' n n':Nat} {v v':Value} {xs xs':List Value} (h:w.ownsRow B e sz v n xs) (h':w.ownsRow B' e' sz' v' n' xs') (hne:e≠e'):∀ k,v.ownBlock=some k→v'.ownBlock≠some k:=fun k hk hk' => by
 obtain ⟨c1,h1⟩:=owns_block h hk
 obtain ⟨c2,h2⟩:=owns_block h' hk'
 rw [h1] at h2
 exact hne (Obj.cells.inj (Option.some.inj h2)).2.1
end
end Go.Proofs.YtmmmjohoihpbeaaGreat
