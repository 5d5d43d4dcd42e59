/- Lemmas of our own on memory and bytes;no condition. -/
import Derived.Test.YtmmmjohoihpbeaaGreatRows
import Derived.WalkKit
import Derived.WalkSpells
import Derived.WalkLawsBesides
import Derived.Lib.Hide
import Derived.Lib.SlBytesConst
import Derived.Deep.QuietTactic
import Derived.BigQuiet
import Derived.ProofKit
import Derived.OpenShut
import Derived.ChangeOld
import Derived.Below
namespace Go.Proofs.YtmmmjohoihpbeaaGreat
section
open Go.RowKit Go.ChangeShapes Go.WideShapes Go.ChangeAt
set_option linter.unusedVariables false
def IsB (w:World) (a:Option Addr) (n c:Nat) (l:List UInt8):Prop :=
 n=l.length∧l.length≤c∧c≤maxLen∧((l=[]∧(a=none→c=0))∨∃ b off,a=some ⟨b,off,none⟩∧b<w.heap.size∧∀ i (h:i<l.length),w.cell? ⟨b,off+i,none⟩=some (.int .u8 l[i].toNat))
theorem cell_of_block {w:World} {b:Nat} {C:Array Value} {e:TypeId} {fz:Nat × Nat} (h:w.heap[b]?=some (.cells C e fz)) (i:Nat):w.cell? ⟨b,i,none⟩=C[i]?:=by
 simp [World.cell?,h]
theorem heap_new (w:World) (o:Obj):(w.alloc o).heap[w.heap.size]?=some o:=by
 show (w.heap.push o)[w.heap.size]?=_
 simp
theorem IsB.below {w w':World} {a:Option Addr} {n c:Nat} {l:List UInt8} (h:IsB w a n c l) (hb:Below w.heap.size w w'):IsB w' a n c l:=by
 obtain ⟨h1,h2,h3,h4 | ⟨b,off,rfl,hlt,hc⟩⟩:=h
 · exact ⟨h1,h2,h3,.inl h4⟩
 · exact ⟨h1,h2,h3,.inr ⟨b,off,rfl,Nat.lt_of_lt_of_le hlt hb.size,fun i hi=>(hb.cell (p:=⟨b,off+i,none⟩) hlt).trans (hc i hi)⟩⟩
def bcells (l:List UInt8):List Value:=l.map fun b=>Value.int .u8 b.toNat
theorem one_at (w:World) (v:Value) (e:TypeId):∀ j u,[v][j]?=some u→(w.alloc (.cells #[v] e)).cell? ((⟨w.heap.size,0,none⟩:Addr).add j)=some u:=by
 intro j u h
 match j,h with
 | 0,h=>simp at h;subst h;simp [Addr.add]
theorem one_cell (v:Value) (h:v.oneCell'=true):∀ u ∈ [v],u.oneCell'=true:=by
 intro u hu;simp at hu;subst hu;exact h
theorem cells_of_owns {w:World} {B e g n c:Nat} {xs:List Value} (h:w.ownsRow B e 1 (.slice (some ⟨g,0,none⟩) n c) n xs) (i:Nat) (v:Value) (hv:xs[i]?=some v):w.cell? ⟨g,i,none⟩=some v:=by
 have:=h.cells (g:=g) rfl i v hv
 by_cases hi:i=0
 · subst hi;simpa [Addr.add] using this
 · simpa [Addr.add,hi] using this
theorem isB_nil (W:World):IsB W none 0 0 []:=⟨rfl,Nat.le_refl _,by decide,.inl ⟨rfl,fun _=>rfl⟩⟩
/- The package sums: what On and Of return. -/
open Go.RowKit Go.ChangeShapes Go.WideShapes Go.ChangeAt
set_option linter.unusedVariables false
end
end Go.Proofs.YtmmmjohoihpbeaaGreat
