/- A value of one cell is stored into a variable: a law of our own;no program in sight. -/
import Derived.Test.YtgbikngicidbkaaGreatDoorQGHeapBFz
import Derived.Great.BuildSlice
namespace Go.Proofs.YtgbikngicidbkaaGreatDoor
open Go.RowKit
set_option linter.unusedVariables false
theorem run_storeVar_at {P:Program} (w:World) (g i:Nat) (C:Array Value) (t ty:TypeId) (v:Value) (hg:w.heap[g]?=some (.cells C t (0,0))) (hi:(P.info? ty).map (·.size)=some 1) (h1:v.oneCell'=true) (hib:i<C.size) :
   (storeVar ty ⟨g,i,none⟩ v).run P w=.ok () (w.setRow g (C.toList.take i ++ [v] ++ C.toList.drop (i+1)).toArray):=by
 have:=run_storeCells_at P g i t [v] 0 C w hg (by simp;omega) (fun x hx=>by simp at hx;subst hx;exact h1)
 have hc:v.cells = #[v]:=by cases v <;> first | rfl | cases h1
 cases hq:P.info? ty with
 | none=>simp [hq] at hi
 | some i =>
   have hs:i.size=1:=by simpa [hq] using hi
   simp only [Nat.add_zero,List.length_singleton] at this
   simp [storeVar,sizeOf,typeInfo,hq,hc,hs,this]
theorem wpList_store_at {P:Program} {ops:Array Oper} {rest:List Oper} {o:Oper} {a:Act} {w:World} {Q:Exit→Act→World→Prop} (hgd:o.guard=none) (ty:TypeId) (x y:Operand) (ho:o.op=.store ty x y)
   (g i:Nat) (hx:a.eval x=.pointer (some ⟨g,i,none⟩)) (v:Value) (hy:a.eval y=v) (h1:v.oneCell'=true) (C:Array Value) (t:TypeId) (hg:w.heap[g]?=some (.cells C t (0,0))) (hib:i<C.size) (hi:(P.info? ty).map (·.size)=some 1)
   (h:∀ w',Touch (fun k=>k=g) w w'→w'.heap[g]?=some (.cells (C.toList.take i ++ [v] ++ C.toList.drop (i+1)).toArray t (0,0))→wpList P ops Q rest (a.put o.dst undef) w'):wpList P ops Q (o :: rest) a w :=
 wpList_plain hgd fun _ hK=>by
   subst hy
   unfold Oper.wp execOp
   simp only [ho,hx,Instr.storeAt,Instr.sureAddr,Sem.run_bind,Sem.run_pure,Result.andThen_ok,run_storeVar_at w g i C t ty _ hg hi h1 hib]
   exact hK _ _ (h _ ((Touch.refl _ w).setRow g _ (.inl rfl)) (setRow_heap w g C _ t _ hg))
end Go.Proofs.YtgbikngicidbkaaGreatDoor
