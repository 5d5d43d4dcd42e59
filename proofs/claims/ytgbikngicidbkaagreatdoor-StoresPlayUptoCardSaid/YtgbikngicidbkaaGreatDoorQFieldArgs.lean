/- Opening arguments field by field,with their bulk;no condition. -/
import Derived.Test.YtgbikngicidbkaaGreatDoorQOpen
import Derived.Test.YtgbikngicidbkaaGreatDoorQBulk
import Derived.Deep.Slices
namespace Go.Proofs.YtgbikngicidbkaaGreatDoor
section
open Go.ChangeShapes Go.WideShapes Go.ChangeAt Go.RowKit Go.Deep
set_option linter.unusedVariables false
set_option maxRecDepth 100000
theorem addr_spot {W:World} {a:Addr} {v:Value} (h:W.cell? a=some v):a=⟨a.block,a.off,none⟩∧a.block<W.heap.size:=by
 obtain ⟨b,off,spot⟩:=a
 have hs:spot=none:=World.cell?_spot h
 subst hs
 refine ⟨rfl,?_⟩
 rcases Nat.lt_or_ge b W.heap.size with h' | h'
 · exact h'
 · simp [World.cell?,Array.getElem?_eq_none h'] at h
theorem choose_list {α:Type} [Inhabited α] (m:Nat) (p:Nat→α→Prop) (h:∀ i,i<m→∃ x,p i x):∃ L:List α,L.length=m∧∀ i (hi:i<L.length),p i L[i]:=by
 induction m with
 | zero=>exact ⟨[],rfl,fun i hi=>by simp at hi⟩
 | succ m ih =>
   obtain ⟨L,hL,hp⟩:=ih fun i hi=>h i (by omega)
   obtain ⟨x,hx⟩:=h m (by omega)
   refine ⟨L ++ [x],by simp [hL],fun i hi => ?_⟩
   by_cases him:i<L.length
   · rw [List.getElem_append_left him];exact hp i him
   · have:i=L.length:=by simp at hi;omega
     subst this
     simp [hL];exact hx
section
variable {H:Type} {enc:TypeId × Value→H} {W:World} {base b0:Nat} {held:Bool} {r:Reach}
theorem field_bytes {n:Nat} {t e:TypeId} {u:Value} {y:DataW H × List MemPlace} (ht:Tryz.prog.underlying t=some (.slice e)) (he:Tryz.prog.underlying e=some (.int .u8)) (hc:Tryz.prog.cellsOf e=1)
   (h:DataW.trod enc Tryz.prog W base (fun _=>true) held n t [u]=some y):∃ a n c l,u=.slice a n c∧IsB W a n c l∧l.length≤Rows.uptoBulk y.1:=by
 rcases open_ints ht he hc h with ⟨hcs,_⟩ | ⟨x,l,c,zs,hcs,_,hl,hm,hz,hy,hcell,hwz⟩
 · simp at hcs
   exact ⟨none,0,0,[],hcs,isB_nil W,Nat.zero_le _⟩
 · simp at hcs
   obtain ⟨L,hL⟩:=isB_of_ints (a:=some x) x zs rfl hl hm (by simpa using hz) hcell hwz
   refine ⟨_,_,_,L,hcs,hL,?_⟩
   rw [hy,← hL.1]
   have hzc:zs.length=c:=by simpa using hz
   refine Nat.le_trans ?_ (bulks.slice_le _ _)
   simp [lits]
   omega
end
end
end Go.Proofs.YtgbikngicidbkaaGreatDoor
