/- The package slots: what stands in a place;conditions: those typed. -/
import Derived.Test.YtmmmjohoihpbeaaGreatQOSlotsM
import Derived.Test.YtmmmjohoihpbeaaGreatQONumsGet
import Derived.Test.YtmmmjohoihpbeaaGreatQOGDisks
import Derived.Test.YtmmmjohoihpbeaaGreatQOGHeap
import Derived.Deep.RegionHeld3
import Derived.Test.YtmmmjohoihpbeaaGreatQOGSlicesB
import Derived.Test.YtmmmjohoihpbeaaGreatQONumsG
import Derived.Test.YtmmmjohoihpbeaaGreatQOBytesF
namespace Go.Proofs.YtmmmjohoihpbeaaGreat
open Go.RowKit
set_option linter.unusedVariables false
/- The package slots: the newest of both places;conditions: those typed. -/
set_option linter.unusedSimpArgs false
/- The package slots: Put;conditions: those typed. -/
/- The package slots: Put;conditions: those typed. -/
theorem owns_lower {w:World} {B B' e sz n:Nat} {v:Value} {xs:List Value} (h:w.ownsRow B e sz v n xs) (hB:B'≤B):w.ownsRow B' e sz v n xs:=by
 refine ⟨h.1,?_⟩
 rcases h.2 with h0 | ⟨g,cap,cur,hv,hb,h3⟩
 · exact .inl h0
 · exact .inr ⟨g,cap,cur,hv,Nat.le_trans hB hb,h3⟩
/- Plain laws on slots: what Put leaves;no program in sight. -/
/- Layer 1's lists as bytes,and back: plain Lean;conditions: those typed. -/
/- What a store keeps,as bytes,and back: a config,a phase,a record: plain Lean;conditions: those typed. -/
def okV (l:List Int) (items:Nat):Prop:=1≤items∧items≤8∧l.length=items∧∀ z ∈ l,0≤z∧z≤1000000
instance (l:List Int) (items:Nat):Decidable (okV l items):=by unfold okV;infer_instance
/- Phases and orders of a store: plain Lean;no condition but those typed. -/
def ordC (n:Nat) (l:List Int):Bool:=decide (l.length=n) && (List.range n).all fun i=>decide ((i:Int) ∈ l)
def allC (n:Nat):List Int:=(List.range n).map Int.ofNat
theorem allC_length (n:Nat):(allC n).length=n:=by simp [allC]
/- The statements' helper lives of layer 19;no condition. -/
/- What a store on a disk keeps,and what its calls make of it: plain Lean;no condition but those typed. -/
theorem mem_of_all {α:Type} [DecidableEq α] (a:List α):∀ (l:List α),a.Nodup→(∀ x ∈ a,x ∈ l)→l.length≤a.length→∀ z ∈ l,z ∈ a:=by
 induction a with
 | nil=>intro l _ _ hl z hz;have:l=[]:=List.eq_nil_of_length_eq_zero (by simpa using hl);rw [this] at hz;cases hz
 | cons x a ih =>
   intro l hn hs hl z hz
   obtain ⟨hx,hn'⟩:=List.nodup_cons.1 hn
   have hxl:=hs x List.mem_cons_self
   by_cases hzx:z=x
   · rw [hzx];exact List.mem_cons_self
   refine List.mem_cons_of_mem _ (ih (l.erase x) hn' (fun y hy => ?_) ?_ z ?_)
   · have:y≠x:=fun e=>hx (e ▸ hy)
     exact (List.mem_erase_of_ne this).2 (hs y (List.mem_cons_of_mem _ hy))
   · rw [List.length_erase_of_mem hxl];simp at hl;omega
   · exact (List.mem_erase_of_ne hzx).2 hz
theorem ordC_bd {n:Nat} {l:List Int} (h:ordC n l=true):l.length=n∧∀ z ∈ l,0≤z∧z<n:=by
 unfold ordC at h
 rw [Bool.and_eq_true,decide_eq_true_eq,List.all_eq_true] at h
 obtain ⟨h1,h2⟩:=h
 refine ⟨h1,fun z hz => ?_⟩
 have hn:(allC n).Nodup:=by
   unfold allC
   refine List.Pairwise.map _ (fun a b hab e=>hab ?_) List.nodup_range
   exact Int.ofNat.inj e
 have:=mem_of_all (allC n) l hn (fun x hx=>by
   obtain ⟨i,hi,rfl⟩:=List.mem_map.1 hx
   exact of_decide_eq_true (h2 i hi)) (by rw [allC_length];omega) z hz
 obtain ⟨i,hi,rfl⟩:=List.mem_map.1 this
 have:=List.mem_range.1 hi
 exact ⟨Int.natCast_nonneg _,by show ((i:Nat):Int)<n;omega⟩
/- A copy of a disk;what a put leaves of a disk;conditions: those typed. -/
/- What a copy of a store's disk keeps,whatever was under way when the disk let nothing more be;plain Lean;no condition but those typed. -/
end Go.Proofs.YtmmmjohoihpbeaaGreat
