/- The document's disk (salesroomref03): what its functions do in memory;conditions: those typed. -/
import Derived.Test.YtgbikngicidbkaaGreatDoorQGDisksDisksA
import Derived.Test.YtgbikngicidbkaaGreatDoorQAppend
import Derived.Deep.RegionHeld3
import Derived.Deep.RegionLaw
import Derived.Test.YtgbikngicidbkaaGreatDoorQGHeapBFz
namespace Go.Proofs.YtgbikngicidbkaaGreatDoor
open Go.RowKit
set_option linter.unusedVariables false
set_option linter.unusedSimpArgs false
set_option maxRecDepth 100000
def sl64 (g:Nat):Value:=.slice (some ⟨g,0,none⟩) 64 64
structure IsRef (w:World) (B rd rl rc:Nat) (R:Dsk):Prop where
 le:B≤rd
 pos:1≤R.secs.length
 most:R.secs.length≤1024
 secs:Secs R.secs
 cells:w.heap[rd]?=some (.cells #[.slice (some ⟨rl,0,none⟩) R.secs.length rc,.int .i64 R.left,.bool R.blown,.int .i64 R.writes] 98 (0,0))
 row:∃ gs:List Nat,gs.length=R.secs.length∧w.ownsRow B 24 1 (.slice (some ⟨rl,0,none⟩) R.secs.length rc) R.secs.length (gs.map sl64)∧(∀ i (h:i<gs.length) (h':i<R.secs.length),RowB w gs[i] R.secs[i]∧B≤gs[i])∧(∀ i j (hi:i<gs.length) (hj:j<gs.length),i≠j→gs[i]≠gs[j])
def NoRef (w:World) (S:Nat→Prop):Prop:=∀ k,S k→∀ cur t fz,w.heap[k]?=some (.cells cur t fz)→t≠5∧t≠24∧t≠98
theorem IsRef.touch {S:Nat→Prop} {w w':World} {B rd rl rc:Nat} {R:Dsk} (h:IsRef w B rd rl rc R) (ht:Touch S w w') (hs:NoRef w S):IsRef w' B rd rl rc R:=by
 obtain ⟨gs,g1,g2,g3,g4⟩:=h.row
 refine ⟨h.le,h.pos,h.most,h.secs,ht.heap h.cells (fun e=>(hs rd e _ _ _ h.cells).2.2 rfl),gs,g1,owns_touch g2 ht (fun k hk e => ?_),fun i hi hi' => ⟨ht.heap (g3 i hi hi').1 (fun e=>(hs _ e _ _ _ (g3 i hi hi').1).1 rfl),(g3 i hi hi').2⟩,g4⟩
 obtain ⟨cur,hc⟩:=owns_block g2 hk
 exact (hs k e _ _ _ hc).2.1 rfl
theorem IsRef.below {w w':World} {B rd rl rc:Nat} {R:Dsk} (h:IsRef w B rd rl rc R) (hb:Below w.heap.size w w'):IsRef w' B rd rl rc R:=h.touch (Touch.of_below (S:=fun _=>False) hb) (fun _ h=>h.elim)
theorem IsRef.field {w:World} {B rd rl rc:Nat} {R:Dsk} (h:IsRef w B rd rl rc R) :
   w.cell? ⟨rd,0,none⟩=some (.slice (some ⟨rl,0,none⟩) R.secs.length rc)∧w.cell? ⟨rd,1,none⟩=some (.int .i64 R.left)∧w.cell? ⟨rd,2,none⟩=some (.bool R.blown)∧w.cell? ⟨rd,3,none⟩=some (.int .i64 R.writes):=by
 refine ⟨?_,?_,?_,?_⟩ <;> rw [cell_of_block h.cells] <;> rfl
theorem rlen_any (B rd rl rc:Nat) (R:Dsk) (w:World) (h:IsRef w B rd rl rc R) :
   Calls Tryz.prog 59 #[.pointer (some ⟨rd,0,none⟩)] w fun e w' => e=.returned (.int .i64 R.secs.length)∧w=w':=by
 obtain ⟨f0,f1,f2,f3⟩:=h.field
 clear h
 go_enter Tryz.func59,Tryz.ntmps59
 go_wp2
 go_ret
 exact ⟨rfl,rfl⟩
theorem IsRef.own {w:World} {B rd rl rc:Nat} {R:Dsk} (h:IsRef w B rd rl rc R) {w':World} (ht:Touch (fun k=>k=rd) w w') (R':Dsk) (e:R'.secs=R.secs)
   (hc:w'.heap[rd]?=some (.cells #[.slice (some ⟨rl,0,none⟩) R.secs.length rc,.int .i64 R'.left,.bool R'.blown,.int .i64 R'.writes] 98 (0,0))):IsRef w' B rd rl rc R':=by
 obtain ⟨S,l,b,n⟩:=R'
 obtain rfl:S=R.secs:=e
 obtain ⟨gs,g1,g2,g3,g4⟩:=h.row
 refine ⟨h.le,h.pos,h.most,h.secs,hc,gs,g1,owns_touch g2 ht (fun k hk e => ?_),fun i hi hi' => ⟨ht.heap (g3 i hi hi').1 (fun e => ?_),(g3 i hi hi').2⟩,g4⟩
 · obtain ⟨cur,hc⟩:=owns_block g2 hk
   rw [e,h.cells] at hc
   have:=(Obj.cells.inj (Option.some.inj hc)).2.1
   revert this;decide
 · have hc:=(g3 i hi hi').1
   unfold RowB at hc
   rw [e,h.cells] at hc
   have:=(Obj.cells.inj (Option.some.inj hc)).2.1
   revert this;decide
theorem rfuse_any (B rd rl rc:Nat) (R:Dsk) (n:Int) (w:World) (h:IsRef w B rd rl rc R) :
   Calls Tryz.prog 18 #[.pointer (some ⟨rd,0,none⟩),.int .i64 n] w fun e w' => e=.returned (.int .i64 (if R.blown then 8 else 0))∧Touch (fun k=>k=rd) w w'∧IsRef w' B rd rl rc (if R.blown then R else { R with left:=max (-1) n }):=by
 obtain ⟨f0,f1,f2,f3⟩:=h.field
 have hfr:∀ i,w.frozen? ⟨rd,i,none⟩=false:=fun i=>by simp [World.frozen?,h.cells]
 have H:=Lib.hid h
 clear h
 cases hB:R.blown
 · rw [hB] at f2
   go_enter Tryz.func18,Tryz.ntmps18
   go_wp2
   all_goals go_ret
   all_goals refine ⟨rfl,(Touch.refl _ _).setCell _ _ (.inl rfl),H.out.own ((Touch.refl _ _).setCell _ _ (.inl rfl)) _ rfl ?_⟩
   · rw [heap_setCell_same _ _ _ _ _ _ H.out.cells,show max (-1) n=n by omega];simp [hB]
   · rw [heap_setCell_same _ _ _ _ _ _ H.out.cells,show max (-1) n = -1 by omega];simp [hB]
 · rw [hB] at f2
   go_enter Tryz.func18,Tryz.ntmps18
   go_wp2
   go_ret
   exact ⟨rfl,Touch.refl _ _,H.out⟩
theorem IsRef.sec {w:World} {B rd rl rc:Nat} {R:Dsk} (h:IsRef w B rd rl rc R) (n:Nat) (hn:n<R.secs.length):∃ g,w.cell? ⟨rl,n,none⟩=some (.slice (some ⟨g,0,none⟩) 64 64)∧RowB w g R.secs[n]:=by
 obtain ⟨gs,g1,g2,g3,g4⟩:=h.row
 refine ⟨gs[n]'(by omega),cells_of_owns g2 n _ ?_,(g3 n (by omega) hn).1⟩
 rw [List.getElem?_map,List.getElem?_eq_getElem (by omega)];rfl
theorem rread_good (B rd rl rc:Nat) (R:Dsk) (n:Nat) (w:World) (h:IsRef w B rd rl rc R) (hn:n<R.secs.length) :
   Calls Tryz.prog 203 #[.pointer (some ⟨rd,0,none⟩),.int .i64 n] w fun e w' => ∃ a c,e=.returned (.tuple #[.slice a 64 c,.int .i64 0])∧Below w.heap.size w w'∧IsB w' a 64 c R.secs[n]:=by
 obtain ⟨f0,f1,f2,f3⟩:=h.field
 obtain ⟨g,c1,hr⟩:=h.sec n hn
 have h64:=h.secs _ (List.getElem_mem hn)
 have hmost:=h.most
 have hat:At w (some ⟨g,0,none⟩) (bcells R.secs[n]):=At.of_cells fun j hj=>by
   rw [Nat.zero_add,cell_of_block hr,List.getElem?_toArray,List.getElem?_eq_getElem hj]
 have h0:decide ((n:Int)<(0:Int))=false:=by simp
 have h1:decide ((R.secs.length:Int)≤(n:Int))=false:=by simp;omega
 have HL:Hid ((bcells R.secs[n]).length=64*1):=Lib.hid (by rw [bcells_length,h64])
 have HO:=Lib.hid (bcells_one R.secs[n])
 obtain ⟨cs,hcs⟩:∃ cs,cs=bcells R.secs[n]:=⟨_,rfl⟩
 rw [← hcs] at hat HL HO
 have HC:=Lib.hid hcs
 have H64:=Lib.hid h64
 clear hr h64 h hcs
 go_enter Tryz.func203,Tryz.ntmps203
 go_wp2_with (first
   | (at_builtin;refine wpList_append_any rowU8 rfl (.const (.slice none 0 0)) (.tmp 23) rfl w.heap.size (.slice none 0 0) 0 [] rfl (World.ownsRow_nil _ _ _ _) (some ⟨g,0,none⟩) 64 64 cs rfl HL.out hat HO.out (by decide) (by decide) (by simp) ?_;intro b2 c2 w2 hown2 hg2 hat2;simp only [Nat.zero_add,List.nil_append] at hown2 hat2)
   | fail)
 go_ret2
 rw [HC.out] at hown2
 have hb2:Below w.heap.size w w2:=(Below.refl _ _).grown hg2 (Nat.le_refl _) (by simp [Value.ownBlock])
 exact ⟨b2,c2,rfl,hb2,isB_of_owns hown2 H64.out.symm⟩
theorem IsRef.lt {w:World} {B rd rl rc:Nat} {R:Dsk} (h:IsRef w B rd rl rc R):rd<w.heap.size∧rl<w.heap.size∧rd≠rl∧B≤rl:=by
 obtain ⟨gs,g1,g2,g3,g4⟩:=h.row
 refine ⟨lt_of_heap h.cells,(g2.lt rl rfl).2,fun e => ?_,(g2.lt rl rfl).1⟩
 obtain ⟨cur,hc⟩:=owns_block g2 (k:=rl) rfl
 rw [← e,h.cells] at hc
 have:=(Obj.cells.inj (Option.some.inj hc)).2.1
 revert this;decide
theorem IsRef.sec_lt {w:World} {B rd rl rc:Nat} {R:Dsk} (h:IsRef w B rd rl rc R) (n:Nat) (hn:n<R.secs.length) (g:Nat) (hc:w.cell? ⟨rl,n,none⟩=some (sl64 g)):g<w.heap.size:=by
 obtain ⟨g',h1,h2⟩:=h.sec n hn
 rw [hc] at h1
 unfold sl64 at h1
 cases h1
 exact lt_of_heap h2
theorem IsRef.setSec {w:World} {B rd rl rc:Nat} {R:Dsk} (h:IsRef w B rd rl rc R) (n:Nat) (hn:n<R.secs.length) (g:Nat) (x:List UInt8) (hx:x.length=64) (hg:RowB w g x) (hB:B≤g)
   (hf:∀ i g',i<R.secs.length→w.cell? ⟨rl,i,none⟩=some (sl64 g')→g'≠g) :
   Touch (fun k=>k=rl) w (w.setCell ⟨rl,n,none⟩ (sl64 g))∧IsRef (w.setCell ⟨rl,n,none⟩ (sl64 g)) B rd rl rc { R with secs:=R.secs.set n x }:=by
 have ht:Touch (fun k=>k=rl) w (w.setCell ⟨rl,n,none⟩ (sl64 g)):=(Touch.refl _ _).setCell _ _ (.inl rfl)
 obtain ⟨_,_,hne,_⟩:=h.lt
 obtain ⟨gs,g1,g2,g3,g4⟩:=h.row
 have hcell:∀ i (hi:i<gs.length),w.cell? ⟨rl,i,none⟩=some (sl64 gs[i]):=fun i hi=>cells_of_owns g2 i _ (by rw [List.getElem?_map,List.getElem?_eq_getElem hi];rfl)
 have hfg:∀ i (hi:i<gs.length),gs[i]≠g:=fun i hi=>hf i _ (by omega) (hcell i hi)
 have hnr:∀ {k:Nat} {y:List UInt8},RowB w k y→k≠rl:=fun hk e=>by
   obtain ⟨cur,hc⟩:=owns_block g2 (k:=rl) rfl
   unfold RowB at hk
   rw [e,hc] at hk
   have:=(Obj.cells.inj (Option.some.inj hk)).2.1
   revert this;decide
 refine ⟨ht,h.le,by simpa using h.pos,by simpa using h.most,fun s hs => ?_,?_,gs.set n g,by simpa using g1,?_,fun i hi hi' => ?_,fun i j hi hj hij => ?_⟩
 · rcases List.mem_or_eq_of_mem_set hs with hs | hs
   · exact h.secs s hs
   · rw [hs];exact hx
 · have:=ht.heap h.cells hne
   simpa using this
 · rw [List.map_set]
   rcases g2.2 with ⟨e,_⟩ | ⟨gr,cap,cur,e,hBr,hgr,hnc,hcm,hcs,htk⟩
   · cases e
   · cases e
     have hsz:n<cur.size:=by rw [hcs];omega
     refine ⟨by simpa using g1,.inr ⟨rl,rc,cur.set n (sl64 g) hsz,by simp,hBr,?_,by simpa using hnc,hcm,by simpa using hcs,?_⟩⟩
     · rw [heap_setCell_same _ _ _ _ _ _ hgr]
       simp [Array.setIfInBounds,hsz]
     · simp only [List.length_set]
       rw [← htk]
       simp [List.take_set]
 · have hi2:i<gs.length:=by simpa using hi
   have hi3:i<R.secs.length:=by simpa using hi'
   by_cases hin:n=i
   · subst hin
     simp only [List.getElem_set_self]
     exact ⟨ht.heap hg (hnr hg),hB⟩
   · simp only [List.getElem_set_ne hin]
     exact ⟨ht.heap (g3 i hi2 hi3).1 (hnr (g3 i hi2 hi3).1),(g3 i hi2 hi3).2⟩
 · have hi2:i<gs.length:=by simpa using hi
   have hj2:j<gs.length:=by simpa using hj
   by_cases hin:n=i
   · subst hin
     rw [List.getElem_set_self,List.getElem_set_ne hij]
     exact Ne.symm (hfg j hj2)
   · rw [List.getElem_set_ne hin]
     by_cases hjn:n=j
     · subst hjn
       rw [List.getElem_set_self]
       exact hfg i hi2
     · rw [List.getElem_set_ne hjn]
       exact g4 i j hi2 hj2 hij
theorem IsRef.apartB {w:World} {B rd rl rc:Nat} {R:Dsk} (h:IsRef w B rd rl rc R) {a:Option Addr} {n c:Nat} {l:List UInt8} (hb:IsB w a n c l):∀ b off,a=some ⟨b,off,none⟩→l≠[]→¬ (b=rd):=by
 intro b off ha hl hbd
 subst hbd
 obtain ⟨_,_,_,⟨h4,_⟩ | ⟨b',off',hv,_,hc⟩⟩:=hb
 · exact hl h4
 · rw [ha] at hv
   cases hv
   have h0:=hc 0 (List.length_pos_iff.2 hl)
   rw [cell_of_block h.cells] at h0
   match off,h0 with
   | 0,h0=>simp at h0
   | 1,h0=>simp at h0
   | 2,h0=>simp at h0
   | 3,h0=>simp at h0
   | k+4,h0=>simp at h0
theorem rwrite_bad (B rd rl rc:Nat) (R:Dsk) (n:Int) (a:Option Addr) (m c:Nat) (w:World) (h:IsRef w B rd rl rc R) (hn:n<0∨(R.secs.length:Int)≤n∨64<m) :
   Calls Tryz.prog 24 #[.pointer (some ⟨rd,0,none⟩),.int .i64 n,.slice a m c] w fun e w' => e=.returned (.int .i64 1)∧w=w':=by
 obtain ⟨f0,f1,f2,f3⟩:=h.field
 clear h
 by_cases c0:n<0
 · have h0:decide (n<(0:Int))=true:=by simpa using c0
   go_enter Tryz.func24,Tryz.ntmps24
   go_wp2
   go_ret
   exact ⟨rfl,rfl⟩
 · have h0:decide (n<(0:Int))=false:=by simpa using c0
   by_cases c1:(R.secs.length:Int)≤n
   · have h1:decide ((R.secs.length:Int)≤n)=true:=by simpa using c1
     go_enter Tryz.func24,Tryz.ntmps24
     go_wp2
     go_ret
     exact ⟨rfl,rfl⟩
   · have h1:decide ((R.secs.length:Int)≤n)=false:=by simpa using c1
     have h2:decide ((64:Int)<(m:Int))=true:=by simp;omega
     go_enter Tryz.func24,Tryz.ntmps24
     go_wp2
     go_ret
     exact ⟨rfl,rfl⟩
theorem rwrite_blown (B rd rl rc:Nat) (R:Dsk) (n:Nat) (a:Option Addr) (m c:Nat) (w:World) (h:IsRef w B rd rl rc R) (hn:n<R.secs.length) (hm:m≤64) (hb:R.blown=true∨R.left=0) :
   Calls Tryz.prog 24 #[.pointer (some ⟨rd,0,none⟩),.int .i64 n,.slice a m c] w fun e w' => e=.returned (.int .i64 8)∧Touch (fun k=>k=rd) w w'∧IsRef w' B rd rl rc { R with blown:=true }:=by
 obtain ⟨f0,f1,f2,f3⟩:=h.field
 have h0:decide ((n:Int)<(0:Int))=false:=by simp
 have h1:decide ((R.secs.length:Int)≤(n:Int))=false:=by simp;omega
 have h2:decide ((64:Int)<(m:Int))=false:=by simp;omega
 have hfr:∀ i,w.frozen? ⟨rd,i,none⟩=false:=fun i=>by simp [World.frozen?,h.cells]
 have H:=Lib.hid h
 clear h
 cases hB:R.blown
 · have hl:R.left=0:=by rw [hB] at hb;simpa using hb
   rw [hB] at f2
   rw [hl] at f1
   go_enter Tryz.func24,Tryz.ntmps24
   go_wp2
   go_ret
   refine ⟨rfl,(Touch.refl _ _).setCell _ _ (.inl rfl),H.out.own ((Touch.refl _ _).setCell _ _ (.inl rfl)) _ rfl ?_⟩
   rw [heap_setCell_same _ _ _ _ _ _ H.out.cells];simp
 · rw [hB] at f2
   go_enter Tryz.func24,Tryz.ntmps24
   go_wp2
   go_ret
   refine ⟨rfl,Touch.refl _ _,?_⟩
   have:=H.out
   obtain ⟨S,l,b,nn⟩:=R
   obtain rfl:b=true:=hB
   exact this
theorem rw_facts {w0 w1 w2:World} {B rd rl rc:Nat} {R:Dsk} (h:IsRef w0 B rd rl rc R) (hb1:Below w0.heap.size w0 w1) (G n:Nat) (hG:G=w0.heap.size) (b:List UInt8) (hb:b.length≤64) (hn:n<R.secs.length)
   (hg2:w2.heap[G]?=some (.cells (z64.toArray.toList.take 0 ++ bcells b ++ z64.toArray.toList.drop (0+(bcells b).length)).toArray 5 (0,0))) (ht2:Touch (fun k=>k=G) w1 w2) :
   w2.cell? ⟨rd,0,none⟩=some (.slice (some ⟨rl,0,none⟩) R.secs.length rc)∧(∃ u,w2.cell? ⟨rl,n,none⟩=some u)∧w2.frozen? ⟨rl,n,none⟩=false ∧
     (w2.setCell ⟨rl,n,none⟩ (.slice (some ⟨G,0,none⟩) 64 64)).cell? ⟨rd,3,none⟩=some (.int .i64 R.writes)∧(w2.setCell ⟨rl,n,none⟩ (.slice (some ⟨G,0,none⟩) 64 64)).frozen? ⟨rd,3,none⟩=false ∧
     Hid (IsRef (w2.setCell ⟨rl,n,none⟩ (.slice (some ⟨G,0,none⟩) 64 64)) B rd rl rc { R with secs:=R.secs.set n (padS b) }∧Touch (fun k=>k=rd∨k=rl) w0 (w2.setCell ⟨rl,n,none⟩ (.slice (some ⟨G,0,none⟩) 64 64))):=by
 have epad:(z64.toArray.toList.take 0 ++ bcells b ++ z64.toArray.toList.drop (0+(bcells b).length)).toArray=(bcells (padS b)).toArray:=by
   rw [bcells_length]
   exact pad_cells b hb
 rw [epad] at hg2
 have hb2:Below w0.heap.size w0 w2:=hb1.trans (ht2.below hb1.size (fun k hk e=>by omega))
 have hr2:=h.below hb2
 have hlt0:=h.lt
 have hBW:B≤w0.heap.size:=Nat.le_trans h.le (Nat.le_of_lt hlt0.1)
 obtain ⟨ht3,hr3⟩:=hr2.setSec n hn G (padS b) (padS_length b hb) hg2 (by omega) (fun i g' hi hc e=>by
   have:w0.cell? ⟨rl,i,none⟩=some (sl64 g'):=(hb2.cell (p:=⟨rl,i,none⟩) hlt0.2.1).symm.trans hc
   have:=h.sec_lt i hi g' this
   omega)
 obtain ⟨g2',c1,_⟩:=hr2.sec n hn
 refine ⟨hr2.field.1,⟨_,c1⟩,?_,hr3.field.2.2.2,book_frozen hr3.cells,Lib.hid ⟨hr3,(Touch.of_below hb2).trans (ht3.weaken (fun k _ hk=>.inr hk))⟩⟩
 obtain ⟨gs,_,q2,_⟩:=hr2.row
 obtain ⟨cur,hc⟩:=owns_block q2 (k:=rl) rfl
 exact book_frozen hc
set_option maxHeartbeats 2000000 in
theorem rwrite_neg (B rd rl rc:Nat) (R:Dsk) (n:Nat) (a:Option Addr) (m c:Nat) (b:List UInt8) (w:World) (h:IsRef w B rd rl rc R) (h1:n<R.secs.length) (h2:m≤64) (hib:IsB w a m c b) (hB:R.blown=false) (hl:R.left<0) (hw1:0≤R.writes) (hw2:R.writes<4611686018427387904) :
   Calls Tryz.prog 24 #[.pointer (some ⟨rd,0,none⟩),.int .i64 n,.slice a m c] w fun e w' => e=.returned (.int .i64 0)∧Touch (fun k=>k=rd∨k=rl) w w'∧IsRef w' B rd rl rc { R with secs:=R.secs.set n (padS b),left:=R.left,writes:=R.writes+1 }:=by
 obtain ⟨f0,f1,f2,f3⟩:=h.field
 obtain ⟨i0,hi,hz0,hz1,hz2⟩:=info_parts infoU8
 have k0:decide ((n:Int)<(0:Int))=false:=by simp
 have k1:decide ((R.secs.length:Int)≤(n:Int))=false:=by simp;omega
 have k2:decide ((64:Int)<(m:Int))=false:=by simp;omega
 have k3:(R.left == 0)=false:=by rw [beq_eq_false_iff_ne];omega
 have k4:decide (0<R.left)=false:=by simp;omega
 rw [hB] at f2
 have hfr:∀ i,w.frozen? ⟨rd,i,none⟩=false:=fun i=>by simp [World.frozen?,h.cells]
 have H:=Lib.hid h
 have HB:=Lib.hid hib
 have hmb:=hib.1
 have hbl:b.length≤64:=by omega
 have hlen:Hid ((bcells b).length=Nat.min m 64*1):=Lib.hid (by rw [bcells_length,← hmb,Nat.mul_one];exact (Nat.min_eq_left h2).symm)
 have hfit:0+(bcells b).length≤z64.toArray.size:=by rw [bcells_length,← hmb,List.size_toArray,z64_length];omega
 have HBW:=HB
 have HR0:=H
 have HT0:Hid (Touch (fun k=>k=rd) w w):=Lib.hid (Touch.refl _ _)
 have HSZ:Hid (w.heap.size=w.heap.size):=Lib.hid rfl
 clear hmb h hib
 go_enter Tryz.func24,Tryz.ntmps24
 go_wp2_with (first
   | (refine wpList_make_full _ rfl _ _ 24 rfl w.heap.size 5 i0 _ 1 Tryz.underlying24 hi hz0 hz1 .i64 .i64 _ _ 64 rfl rfl rfl rfl (by rw [hz2];decide) (by decide) (Nat.le_refl _) ?_;intro w1 hown1 hg1;have hb1:Below w.heap.size w w1:=(Below.refl _ _).grown hg1 (Nat.le_refl _) (by simp);rw [z64_made] at hown1;have hrow:=(row_of_owns hown1).1;have hat:=(HBW.out.below hb1).at;rw [HSZ.out] at hrow;have HB1:=Lib.hid hb1;clear hb1 hown1 hg1)
   | (refine wpList_copy_any rowU8 rfl (.tmp 49) (.tmp 50) 24 rfl (some ⟨w.heap.size,0,none⟩) a 64 64 m c rfl rfl w.heap.size 0 z64.toArray 5 hrow (bcells b) hlen.out (fun _=>rfl) hat hfit (bcells_one _) ?_;intro w2 hg2 ht2;obtain ⟨q0,⟨u,q1⟩,q2,q3,q4,Q⟩:=rw_facts HR0.out HB1.out w.heap.size n HSZ.out.symm b hbl (by exact h1) hg2 ht2;(try dsimp only at q0 q3);clear hg2 ht2 hrow hat)
   | fail)
 go_ret
 obtain ⟨hr3,ht3⟩:=Q.out
 refine ⟨rfl,((HT0.out.weaken (fun k _ hk=>.inl hk)).trans ht3).setCell _ _ (.inl (.inl rfl)),hr3.own ((Touch.refl _ _).setCell _ _ (.inl rfl)) _ rfl ?_⟩
 rw [heap_setCell_same _ _ _ _ _ _ hr3.cells]
 simp [hB]
set_option maxHeartbeats 2000000 in
theorem rwrite_pos (B rd rl rc:Nat) (R:Dsk) (n:Nat) (a:Option Addr) (m c:Nat) (b:List UInt8) (w:World) (h:IsRef w B rd rl rc R) (h1:n<R.secs.length) (h2:m≤64) (hib:IsB w a m c b) (hB:R.blown=false) (hl:0<R.left) (hl2:R.left≤9223372036854775807) (hw1:0≤R.writes) (hw2:R.writes<4611686018427387904) :
   Calls Tryz.prog 24 #[.pointer (some ⟨rd,0,none⟩),.int .i64 n,.slice a m c] w fun e w' => e=.returned (.int .i64 0)∧Touch (fun k=>k=rd∨k=rl) w w'∧IsRef w' B rd rl rc { R with secs:=R.secs.set n (padS b),left:=R.left - 1,writes:=R.writes+1 }:=by
 obtain ⟨f0,f1,f2,f3⟩:=h.field
 obtain ⟨i0,hi,hz0,hz1,hz2⟩:=info_parts infoU8
 have k0:decide ((n:Int)<(0:Int))=false:=by simp
 have k1:decide ((R.secs.length:Int)≤(n:Int))=false:=by simp;omega
 have k2:decide ((64:Int)<(m:Int))=false:=by simp;omega
 have k3:(R.left == 0)=false:=by rw [beq_eq_false_iff_ne];omega
 have k4:decide (0<R.left)=true:=by simp;omega
 rw [hB] at f2
 have hfr:∀ i,w.frozen? ⟨rd,i,none⟩=false:=fun i=>by simp [World.frozen?,h.cells]
 have H:=Lib.hid h
 have HB:=Lib.hid hib
 have hmb:=hib.1
 have hbl:b.length≤64:=by omega
 have hlen:Hid ((bcells b).length=Nat.min m 64*1):=Lib.hid (by rw [bcells_length,← hmb,Nat.mul_one];exact (Nat.min_eq_left h2).symm)
 have hfit:0+(bcells b).length≤z64.toArray.size:=by rw [bcells_length,← hmb,List.size_toArray,z64_length];omega
 have ht0:Touch (fun k=>k=rd) w (w.setCell ⟨rd,1,none⟩ (.int .i64 (R.left - 1))):=(Touch.refl _ _).setCell _ _ (.inl rfl)
 have hr0:IsRef (w.setCell ⟨rd,1,none⟩ (.int .i64 (R.left - 1))) B rd rl rc { R with left:=R.left - 1 }:=H.out.own ht0 _ rfl (by
   rw [heap_setCell_same _ _ _ _ _ _ H.out.cells];simp)
 have hsz0:(w.setCell ⟨rd,1,none⟩ (.int .i64 (R.left - 1))).heap.size=w.heap.size:=by simp [World.setCell]
 have HBW:=Lib.hid (HB.out.touch ht0 (H.out.apartB HB.out))
 have HR0:=Lib.hid hr0
 have HT0:=Lib.hid ht0
 have HSZ:=Lib.hid hsz0
 clear hsz0 hr0 ht0 hmb h hib
 go_enter Tryz.func24,Tryz.ntmps24
 go_wp2_with (first
   | (refine wpList_make_full _ rfl _ _ 24 rfl (w.setCell ⟨rd,1,none⟩ (.int .i64 (R.left - 1))).heap.size 5 i0 _ 1 Tryz.underlying24 hi hz0 hz1 .i64 .i64 _ _ 64 rfl rfl rfl rfl (by rw [hz2];decide) (by decide) (Nat.le_refl _) ?_;intro w1 hown1 hg1;have hb1:Below (w.setCell ⟨rd,1,none⟩ (.int .i64 (R.left - 1))).heap.size (w.setCell ⟨rd,1,none⟩ (.int .i64 (R.left - 1))) w1:=(Below.refl _ _).grown hg1 (Nat.le_refl _) (by simp);rw [z64_made] at hown1;have hrow:=(row_of_owns hown1).1;have hat:=(HBW.out.below hb1).at;rw [HSZ.out] at hrow;have HB1:=Lib.hid hb1;clear hb1 hown1 hg1)
   | (refine wpList_copy_any rowU8 rfl (.tmp 49) (.tmp 50) 24 rfl (some ⟨w.heap.size,0,none⟩) a 64 64 m c rfl rfl w.heap.size 0 z64.toArray 5 hrow (bcells b) hlen.out (fun _=>rfl) hat hfit (bcells_one _) ?_;intro w2 hg2 ht2;obtain ⟨q0,⟨u,q1⟩,q2,q3,q4,Q⟩:=rw_facts HR0.out HB1.out w.heap.size n HSZ.out.symm b hbl (by exact h1) hg2 ht2;(try dsimp only at q0 q3);clear hg2 ht2 hrow hat)
   | fail)
 go_ret
 obtain ⟨hr3,ht3⟩:=Q.out
 refine ⟨rfl,((HT0.out.weaken (fun k _ hk=>.inl hk)).trans ht3).setCell _ _ (.inl (.inl rfl)),hr3.own ((Touch.refl _ _).setCell _ _ (.inl rfl)) _ rfl ?_⟩
 rw [heap_setCell_same _ _ _ _ _ _ hr3.cells]
 simp [hB]
theorem rwrite_any (B rd rl rc:Nat) (R:Dsk) (n:Int) (a:Option Addr) (m c:Nat) (b:List UInt8) (w:World) (h:IsRef w B rd rl rc R) (hib:IsB w a m c b) (hok:R.ok) :
   Calls Tryz.prog 24 #[.pointer (some ⟨rd,0,none⟩),.int .i64 n,.slice a m c] w fun e w' => e=.returned (.int .i64 (R.write n b).1)∧Touch (fun k=>k=rd∨k=rl) w w'∧IsRef w' B rd rl rc (R.write n b).2:=by
 have hm:=hib.1
 by_cases h1:n<0∨(R.secs.length:Int)≤n∨64<b.length
 · have e:R.write n b=(1,R):=if_pos h1
   rw [e]
   refine (rwrite_bad B rd rl rc R n a m c w h (by omega)).mono ?_
   rintro e w' ⟨he,rfl⟩
   exact ⟨he,Touch.refl _ _,h⟩
 obtain ⟨k,rfl⟩:=Int.eq_ofNat_of_zero_le (show 0≤n by omega)
 by_cases h2:R.blown=true∨R.left=0
 · have e:R.write k b=(8,{ R with blown:=true }):=by unfold Dsk.write;rw [if_neg h1,if_pos h2]
   rw [e]
   refine (rwrite_blown B rd rl rc R k a m c w h (by omega) (by omega) h2).mono ?_
   rintro e w' ⟨he,ht,hd⟩
   exact ⟨he,ht.weaken (fun k _ hk=>.inl hk),hd⟩
 have e:R.write k b=(0,{ R with secs:=R.secs.set (k:Int).toNat (padS b),left:=if 0<R.left then R.left - 1 else R.left,writes:=R.writes+1 }):=by unfold Dsk.write;rw [if_neg h1,if_neg h2]
 have hB:R.blown=false:=by
   cases hb:R.blown with
   | false=>rfl
   | true=>exact absurd (.inl hb) h2
 rw [e]
 by_cases h3:0<R.left
 · rw [if_pos h3]
   exact rwrite_pos B rd rl rc R k a m c b w h (by omega) (by omega) hib hB h3 hok.2.2 hok.1 hok.2.1
 · rw [if_neg h3]
   exact rwrite_neg B rd rl rc R k a m c b w h (by omega) (by omega) hib hB (by omega) hok.1 hok.2.1
theorem make64 (w:World):(Instr.makeSlice 24 (.int .i64 64) (.int .i64 64)).run Tryz.prog w=.ok (.slice (some ⟨w.heap.size,0,none⟩) 64 64) (w.alloc (.cells z64.toArray 5)):=by
 obtain ⟨i0,hi,hz0,hz1,hz2⟩:=info_parts infoU8
 have h:=run_make (P:=Tryz.prog) w 24 5 i0 _ Tryz.underlying24 hi hz0 .i64 .i64 64 64 (by decide) (by decide) (by rw [hz2];decide) (by decide)
 rw [hz1] at h
 have e:(madeCells (Value.int .u8 0).cells (64*1))=z64.toArray:=by rw [← z64_made]
 rw [← e]
 exact h
def RNewSt (w0 w:World) (rd k:Nat) (b:Option Addr) (c:Nat):Prop :=
 Below w0.heap.size w0 w∧w0.heap.size≤rd∧w.heap[rd]?=some (.cells #[.slice b k c,.int .i64 (-1),.bool false,.int .i64 0] 98 (0,0)) ∧
   ∃ gs:List Nat,gs.length=k∧w.ownsRow w0.heap.size 24 1 (.slice b k c) k (gs.map sl64)∧(∀ i (h:i<gs.length),RowB w gs[i] zsec∧w0.heap.size≤gs[i])∧∀ i j (hi:i<gs.length) (hj:j<gs.length),i≠j→gs[i]≠gs[j]
theorem RNewSt.row {w0 w:World} {rd k:Nat} {b:Option Addr} {c:Nat} (h:RNewSt w0 w rd k b c):∃ gs:List Nat,w.ownsRow w0.heap.size 24 1 (.slice b k c) k (gs.map sl64)∧(∀ x,(Value.slice b k c).ownBlock=some x→x≠rd∧x<w.heap.size):=by
 obtain ⟨_,_,h3,gs,_,h5,_⟩:=h
 refine ⟨gs,h5,fun x hx => ?_⟩
 obtain ⟨cur,hc⟩:=owns_block h5 hx
 refine ⟨fun e => ?_,lt_of_heap hc⟩
 rw [e,h3] at hc
 have:=(Obj.cells.inj (Option.some.inj hc)).2.1
 revert this;decide
theorem RNewSt.step {w0 w wa w8:World} {rd k:Nat} {b b8:Option Addr} {c c8 g:Nat} (h:RNewSt w0 w rd k b c) (hba:Below w.heap.size w wa) (hG:g=w.heap.size) (hga:wa.heap[g]?=some (.cells z64.toArray 5 (0,0))) (gs':List Nat) (he:w.ownsRow w0.heap.size 24 1 (.slice b k c) k (gs'.map sl64))
   (hown:w8.ownsRow w0.heap.size 24 1 (.slice b8 (k+1) c8) (k+1) (gs'.map sl64 ++ [sl64 g])) (ht8:Touch (fun x=>(Value.slice b k c).ownBlock=some x) wa w8):RNewSt w0 (w8.setCell ⟨rd,0,none⟩ (.slice b8 (k+1) c8)) rd (k+1) b8 c8:=by
 obtain ⟨_,_,hrow⟩:=h.row
 obtain ⟨h1,h2,h3,gs,h4,h5,h6,h7⟩:=h
 have hee:gs'.map sl64=gs.map sl64:=by
   rcases he.2 with ⟨e1,e2⟩ | ⟨x,cap,cur,e1,_,e3,_,_,e4,e5⟩
   · have l1:=he.1
     have l2:=h5.1
     simp at l1 l2
     have:gs'=[]:=List.eq_nil_of_length_eq_zero (by omega)
     have:gs=[]:=List.eq_nil_of_length_eq_zero (by omega)
     subst_vars;rfl
   · rcases h5.2 with ⟨f1,_⟩ | ⟨x',cap',cur',f1,_,f3,_,_,f4,f5⟩
     · rw [e1] at f1;cases f1
     · rw [e1] at f1;cases f1
       rw [e3] at f3
       have:=(Obj.cells.inj (Option.some.inj f3)).1
       subst this
       rw [← e5,← f5]
 rw [hee] at hown
 have hsub:∀ x,(Value.slice b k c).ownBlock=some x→x≠rd∧x<w.heap.size:=hrow
 have hT:Touch (fun x=>(Value.slice b k c).ownBlock=some x) w w8:=(Touch.of_below hba).trans ht8
 have hrd8:w8.heap[rd]?=some (.cells #[.slice b k c,.int .i64 (-1),.bool false,.int .i64 0] 98 (0,0)):=hT.heap h3 (fun e=>(hsub rd e).1 rfl)
 have hrows:∀ {x:Nat} {y:List UInt8},RowB w x y→RowB w8 x y:=fun {x y} hx=>hT.heap hx (fun e=>by
   obtain ⟨cur,hc⟩:=owns_block h5 e
   unfold RowB at hx
   rw [hx] at hc
   have:=(Obj.cells.inj (Option.some.inj hc)).2.1
   revert this;decide)
 have hg8:RowB w8 g zsec:=ht8.heap hga (fun e=>by have:=(hsub g e).2;omega)
 have htc:Touch (fun x=>x=rd) w8 (w8.setCell ⟨rd,0,none⟩ (.slice b8 (k+1) c8)):=(Touch.refl _ _).setCell _ _ (.inl rfl)
 have hrowc:∀ {x:Nat} {y:List UInt8},RowB w8 x y→RowB (w8.setCell ⟨rd,0,none⟩ (.slice b8 (k+1) c8)) x y:=fun {x y} hx=>htc.heap hx (fun e=>by
   unfold RowB at hx
   rw [e,hrd8] at hx
   have:=(Obj.cells.inj (Option.some.inj hx)).2.1
   revert this;decide)
 have hlt:∀ i (hi:i<gs.length),gs[i]<w.heap.size:=fun i hi=>lt_of_heap (h6 i hi).1
 refine ⟨(h1.trans (hT.below h1.size (fun x hx e=>by
     have:=h5.lt x e
     omega))).setCell h2 _,h2,?_,gs ++ [g],by simp [h4],?_,fun i hi => ?_,fun i j hi hj hij => ?_⟩
 · rw [heap_setCell_same _ _ _ _ _ _ hrd8];rfl
 · rw [List.map_append,List.map_singleton]
   refine owns_touch hown htc (fun x hx e => ?_)
   obtain ⟨cur,hc⟩:=owns_block hown hx
   rw [e,hrd8] at hc
   have:=(Obj.cells.inj (Option.some.inj hc)).2.1
   revert this;decide
 · by_cases hil:i<gs.length
   · rw [List.getElem_append_left hil]
     exact ⟨hrowc (hrows (h6 i hil).1),(h6 i hil).2⟩
   · have:i=gs.length:=by simp at hi;omega
     subst this
     simp only [List.getElem_append_right (Nat.le_refl _),Nat.sub_self,List.getElem_cons_zero]
     exact ⟨hrowc hg8,by rw [hG];exact h1.size⟩
 · by_cases hil:i<gs.length
   · rw [List.getElem_append_left hil]
     by_cases hjl:j<gs.length
     · rw [List.getElem_append_left hjl];exact h7 i j hil hjl hij
     · have:j=gs.length:=by simp at hj;omega
       subst this
       simp only [List.getElem_append_right (Nat.le_refl _),Nat.sub_self,List.getElem_cons_zero]
       have:=hlt i hil
       omega
   · have:i=gs.length:=by simp at hi;omega
     subst this
     have hjl:j<gs.length:=by simp at hj;omega
     rw [List.getElem_append_left hjl]
     simp only [List.getElem_append_right (Nat.le_refl _),Nat.sub_self,List.getElem_cons_zero]
     have:=hlt j hjl
     omega
theorem RNewSt.done {w0 w:World} {rd k:Nat} {b:Option Addr} {c:Nat} (h:RNewSt w0 w rd k b c) (h1:1≤k) (h2:k≤1024):∃ rl,IsRef w w0.heap.size rd rl c ⟨List.replicate k zsec,-1,false,0⟩:=by
 obtain ⟨_,h3,h4,gs,h5,h6,h7,h8⟩:=h
 rcases h6.2 with ⟨e1,e2⟩ | ⟨rl,cap,cur,e1,_⟩
 · omega
 · cases e1
   refine ⟨rl,h3,by simpa using h1,by simpa using h2,fun s hs=>by rw [List.eq_of_mem_replicate hs];exact zsec_length,by simpa using h4,gs,by simpa using h5,by simpa using h6,fun i hi hi' => ⟨by simpa using (h7 i hi).1,(h7 i hi).2⟩,h8⟩
def Pair (w W:World) (v:Value):Prop :=
 W=(w.alloc (.cells z64.toArray 5)).alloc (.cells #[v] 24)∨W=((w.alloc (.cells z64.toArray 5)).alloc (.cells #[v] 24)).drew ∨
 W=(w.alloc (.cells z64.toArray 5)).drew.alloc (.cells #[v] 24)∨W=(w.drew.alloc (.cells z64.toArray 5)).alloc (.cells #[v] 24)
theorem Pair.facts {w W:World} {v:Value} (h:Pair w W v):Below w.heap.size w W∧W.heap[w.heap.size]?=some (.cells z64.toArray 5 (0,0))∧W.heap[w.heap.size+1]?=some (.cells #[v] 24 (0,0)):=by
 have hb:=(((Below.refl w.heap.size w).alloc (Nat.le_refl _) (.cells z64.toArray 5)).alloc (by simp) (.cells #[v] 24))
 have h0:((w.alloc (.cells z64.toArray 5)).alloc (.cells #[v] 24)).heap[w.heap.size]?=some (.cells z64.toArray 5 (0,0)):=below_heap (((Below.refl (w.heap.size+1) (w.alloc (.cells z64.toArray 5))).alloc (by simp) _)) (heap_new _ _) (by omega)
 have h1:((w.alloc (.cells z64.toArray 5)).alloc (.cells #[v] 24)).heap[w.heap.size+1]?=some (.cells #[v] 24 (0,0)):=by
   have:=heap_new (w.alloc (.cells z64.toArray 5)) (.cells #[v] 24 (0,0))
   rwa [show (w.alloc (.cells z64.toArray 5)).heap.size=w.heap.size+1 by simp] at this
 rcases h with rfl | rfl | rfl | rfl
 · exact ⟨hb,h0,h1⟩
 · exact ⟨hb.drew,h0,h1⟩
 · exact ⟨hb.drew,h0,h1⟩
 · exact ⟨hb.drew,h0,h1⟩
theorem at_pair (w W:World) (v:Value) (h:Pair w W v):At W (some ⟨w.heap.size+1,0,none⟩) [v]:=At.of_cells fun j hj=>by
 have hj0:j=0:=by simpa using hj
 subst hj0
 rw [Nat.zero_add,cell_of_block h.facts.2.2];rfl
theorem RNewSt.step2 {w0 w w8:World} {rd k:Nat} {b b8:Option Addr} {c c8:Nat} (h:RNewSt w0 w rd k b c) (gs':List Nat) (he:w.ownsRow w0.heap.size 24 1 (.slice b k c) k (gs'.map sl64)) (wa:World) (hp:Pair w wa (sl64 w.heap.size))
   (hown:w8.ownsRow w0.heap.size 24 1 (.slice b8 (k+1) c8) (k+1) (gs'.map sl64 ++ [sl64 w.heap.size])) (hg:wa.grownBy w8 (Value.slice b k c).ownBlock) :
   w8.heap[rd]?=some (.cells #[.slice b k c,.int .i64 (-1),.bool false,.int .i64 0] 98 (0,0))∧RNewSt w0 (w8.setCell ⟨rd,0,none⟩ (.slice b8 (k+1) c8)) rd (k+1) b8 c8:=by
 obtain ⟨hba,hz,_⟩:=hp.facts
 have ht8:Touch (fun x=>(Value.slice b k c).ownBlock=some x) wa w8:=grown_touch (Below.refl _ _) hg
 obtain ⟨_,_,hrow⟩:=h.row
 exact ⟨((Touch.of_below hba).trans ht8).heap h.2.2.1 (fun e=>(hrow _ e).1 rfl),h.step hba rfl hz gs' he hown ht8⟩
set_option maxHeartbeats 4000000 in
theorem rnew_good (n:Nat) (w:World) (h1:1≤n) (h2:n≤1024) :
   Calls Tryz.prog 7 #[.int .i64 n] w fun e w' => ∃ rd rl rc,e=.returned (.tuple #[.pointer (some ⟨rd,0,none⟩),.int .i64 0])∧Below w.heap.size w w'∧IsRef w' w.heap.size rd rl rc ⟨List.replicate n zsec,-1,false,0⟩:=by
 have hd1:decide ((n:Int)<1)=false:=by simp;omega
 have hd2:decide ((1024:Int)<(n:Int))=false:=by simp;omega
 have hmk:=make64
 go_enter Tryz.func7,Tryz.ntmps7
 go_wp2
 go_loopw [5] (fun i wr => ∃ k b c,k≤n∧i=.int .i64 (k:Nat)∧Hid (RNewSt w wr w.heap.size k b c)) (fun i _=>n - (intOf i).toNat)
 case atStart=>exact ⟨0,none,0,Nat.zero_le _,rfl,Lib.hid ⟨(Below.refl _ _).alloc (Nat.le_refl _) _,Nat.le_refl _,heap_new _ _,[],rfl,World.ownsRow_nil _ _ _ _,fun i hi=>by simp at hi,fun i j hi=>by simp at hi⟩⟩
 case round =>
   obtain ⟨k,b,c,hk,rfl,HS⟩:=hrel
   by_cases hlt:k<n
   · have f0:wr.cell? ⟨w.heap.size,0,none⟩=some (.slice b k c):=by rw [cell_of_block HS.out.2.2.1];rfl
     obtain ⟨gs,hrow,hsub⟩:=HS.out.row
     have hsz:w.heap.size≤wr.heap.size:=HS.out.1.size
     have HSUB:=Lib.hid hsub
     have HRD:=Lib.hid HS.out.2.2.1
     have HR:=Lib.hid hrow
     have k0:wr.drew.cell? ⟨w.heap.size,0,none⟩=some (.slice b k c):=f0
     have k1:(wr.alloc (.cells z64.toArray 5)).drew.cell? ⟨w.heap.size,0,none⟩=some (.slice b k c):=cell_alloc f0 _
     have k2:(wr.drew.alloc (.cells z64.toArray 5)).cell? ⟨w.heap.size,0,none⟩=some (.slice b k c):=cell_alloc k0 _
     have k3:(wr.drew.alloc (.cells z64.toArray 5)).drew.cell? ⟨w.heap.size,0,none⟩=some (.slice b k c):=k2
     have k4:((wr.alloc (.cells z64.toArray 5)).alloc (.cells #[.slice (some ⟨wr.heap.size,0,none⟩) 64 64] 24)).drew.cell? ⟨w.heap.size,0,none⟩=some (.slice b k c):=cell_alloc k1 _
     have k5:((wr.drew.alloc (.cells z64.toArray 5)).alloc (.cells #[.slice (some ⟨wr.heap.size,0,none⟩) 64 64] 24)).cell? ⟨w.heap.size,0,none⟩=some (.slice b k c):=cell_alloc k2 _
     clear hrow hsub
     go_wp2
     go_region_law (first
       | (refine step_append_any rowBs rfl (.tmp 23) (.tmp 25) (by rfl) w.heap.size (.slice b k c) k (gs.map sl64) (by simp [Act.eval,Act.put]) (owns_touch HR.out (by repeat (first | exact Touch.refl _ _ | apply Touch.drew | apply Touch.alloc)) (fun _ _=>id)) (some ⟨wr.heap.size+1,0,none⟩) 1 1 [sl64 wr.heap.size] (by simp [Act.eval,Act.put]) rfl (at_pair wr _ _ (by first | exact .inl rfl | exact .inr (.inl rfl) | exact .inr (.inr (.inl rfl)) | exact .inr (.inr (.inr rfl)))) (one_cell _ rfl) (by unfold maxLen;omega) (by omega) (by simp;omega) ?_;intro b8 c8 w8 hown8 hg8 hat8
          have HN:=Lib.hid (HS.out.step2 gs HR.out _ (by first | exact .inl rfl | exact .inr (.inl rfl) | exact .inr (.inr (.inl rfl)) | exact .inr (.inr (.inr rfl))) hown8 hg8)
          have hb8:=HN.out.1
          have q1:w8.cell? ⟨w.heap.size,0,none⟩=some (.slice b k c):=by rw [cell_of_block hb8];rfl
          have qf:w8.frozen? ⟨w.heap.size,0,none⟩=false:=book_frozen hb8
          clear hown8 hg8 hat8 hb8)
       | fail)
     all_goals
       have HN2:=Lib.hid HN.out.2
       clear q1 qf f0 k0 k1 k2 k3 k4 k5
       go_wp2
       go_roundw
       case rel=>exact ⟨k+1,b8,c8,by omega,by go_num,HN2⟩
       case measure=>simp [intOf];omega
   · have hke:k=n:=by omega
     subst hke
     go_wp2
     go_ret2
     obtain ⟨rl,hr⟩:=HS.out.done h1 h2
     exact ⟨_,rl,c,rfl,HS.out.1,hr⟩
theorem IsRef.setRow {w w':World} {B rd rl rc:Nat} {R:Dsk} (h:IsRef w B rd rl rc R) (n:Nat) (hn:n<R.secs.length) (g:Nat) (hc:w.cell? ⟨rl,n,none⟩=some (sl64 g)) (x:List UInt8) (hx:x.length=64) (ht:Touch (fun k=>k=g) w w') (hg:RowB w' g x) :
   IsRef w' B rd rl rc { R with secs:=R.secs.set n x }:=by
 obtain ⟨gs,g1,g2,g3,g4⟩:=h.row
 have hcell:∀ i (hi:i<gs.length),w.cell? ⟨rl,i,none⟩=some (sl64 gs[i]):=fun i hi=>cells_of_owns g2 i _ (by rw [List.getElem?_map,List.getElem?_eq_getElem hi];rfl)
 have hgn:gs[n]'(by omega)=g:=by
   have:=(hcell n (by omega)).symm.trans hc
   unfold sl64 at this
   simpa using this
 have hgr:=(g3 n (by omega) hn).1
 rw [hgn] at hgr
 refine ⟨h.le,by simpa using h.pos,by simpa using h.most,fun s hs => ?_,?_,gs,by simpa using g1,?_,fun i hi hi' => ?_,g4⟩
 · rcases List.mem_or_eq_of_mem_set hs with hs | hs
   · exact h.secs s hs
   · rw [hs];exact hx
 · have:=ht.heap h.cells (fun e=>by
     unfold RowB at hgr
     rw [← e,h.cells] at hgr
     have:=(Obj.cells.inj (Option.some.inj hgr)).2.1
     revert this;decide)
   simpa using this
 · have:=owns_touch g2 ht (fun k hk e=>by
     obtain ⟨cur,hc2⟩:=owns_block g2 hk
     unfold RowB at hgr
     rw [e,hgr] at hc2
     have:=(Obj.cells.inj (Option.some.inj hc2)).2.1
     revert this;decide)
   simpa using this
 · have hi3:i<R.secs.length:=by simpa using hi'
   by_cases hin:n=i
   · subst hin
     simp only [List.getElem_set_self]
     exact ⟨by rw [hgn];exact hg,(g3 n hi hi3).2⟩
   · simp only [List.getElem_set_ne hin]
     exact ⟨ht.heap (g3 i hi hi3).1 (fun e=>g4 n i (by omega) hi hin (by rw [hgn,e])),(g3 i hi hi3).2⟩
theorem IsRef.other {w:World} {B rd rl rc n g:Nat} {R:Dsk} {x:List UInt8} (h:IsRef w B rd rl rc R) (hg:RowB w g x):rd≠g∧rl≠g:=by
 obtain ⟨gs,g1,g2,g3,g4⟩:=h.row
 unfold RowB at hg
 constructor
 · intro e
   rw [← e,h.cells] at hg
   have:=(Obj.cells.inj (Option.some.inj hg)).2.1
   revert this;decide
 · intro e
   obtain ⟨cur,hc2⟩:=owns_block g2 (k:=rl) rfl
   rw [e,hg] at hc2
   have:=(Obj.cells.inj (Option.some.inj hc2)).2.1
   revert this;decide
def half (L:List (List UInt8)) (k:Nat):List (List UInt8):=L.take k ++ List.replicate (L.length - k) zsec
theorem half_length (L:List (List UInt8)) (k:Nat) (h:k≤L.length):(half L k).length=L.length:=by unfold half;simp;omega
theorem half_set (L:List (List UInt8)) (k:Nat) (h:k<L.length):(half L k).set k L[k]=half L (k+1):=by
 unfold half
 rw [List.set_append_right _ _ (by simp;omega)]
 rw [show L.length - k=(L.length - (k+1))+1 by omega,List.replicate_succ,List.length_take,Nat.min_eq_left (by omega),Nat.sub_self,List.set_cons_zero,List.take_succ_eq_append_getElem h,List.append_assoc]
 rfl
theorem half_all (L:List (List UInt8)):half L L.length=L:=by unfold half;simp
theorem half_nil (L:List (List UInt8)):half L 0=List.replicate L.length zsec:=by unfold half;simp
set_option maxHeartbeats 4000000 in
theorem rcopy_any (B rd rl rc:Nat) (R:Dsk) (w:World) (h:IsRef w B rd rl rc R) :
   Calls Tryz.prog 20 #[.pointer (some ⟨rd,0,none⟩)] w fun e w' => ∃ cd cl cc,e=.returned (.pointer (some ⟨cd,0,none⟩))∧Below w.heap.size w w'∧IsRef w' w.heap.size cd cl cc ⟨R.secs,-1,false,0⟩:=by
 obtain ⟨f0,f1,f2,f3⟩:=h.field
 have H:=Lib.hid h
 clear h f1 f2 f3
 go_enter Tryz.func20,Tryz.ntmps20
 go_wp2_with fail
 refine (rnew_good R.secs.length w H.out.pos H.out.most).mono ?_;rintro e w1 ⟨cd,cl,cc,rfl,hb1,hc1⟩
 rw [← half_nil] at hc1
 have HB1:=Lib.hid hb1
 have HC1:=Lib.hid hc1
 clear hb1 hc1 f0
 go_wp2_with fail
 obtain ⟨M,hM⟩:∃ M,M=R.secs.length:=⟨_,rfl⟩
 have HM:=Lib.hid hM
 have hmost:M≤1024:=by rw [hM];exact H.out.most
 clear hM
 go_loopw [5] (fun i wr => ∃ k,k≤M∧i=.int .i64 (k:Nat)∧Hid (Below w.heap.size w wr)∧Hid (IsRef wr w.heap.size cd cl cc ⟨half R.secs k,-1,false,0⟩)) (fun i _=>M - (intOf i).toNat)
 case atStart=>exact ⟨0,Nat.zero_le _,rfl,HB1,HC1⟩
 case round =>
   obtain ⟨k,hk,rfl,HB,HC⟩:=hrel
   have HR:Hid (IsRef wr B rd rl rc R):=Lib.hid (H.out.below HB.out)
   have f0:wr.cell? ⟨rd,0,none⟩=some (.slice (some ⟨rl,0,none⟩) M rc):=by rw [HM.out];exact HR.out.field.1
   by_cases hlt:k<M
   · have hkR:k<R.secs.length:=by rw [← HM.out];exact hlt
     have hkc:k<(half R.secs k).length:=by rw [half_length _ _ (by omega)];exact hkR
     have c0:wr.cell? ⟨cd,0,none⟩=some (.slice (some ⟨cl,0,none⟩) M cc):=by
       have:=HC.out.field.1
       dsimp only at this
       rwa [half_length _ _ (by omega),← HM.out] at this
     obtain ⟨g,c1,hg⟩:=HC.out.sec k hkc
     obtain ⟨q,f1,hq⟩:=HR.out.sec k hkR
     have h64:=H.out.secs _ (List.getElem_mem hkR)
     have hne1:=HC.out.other (n:=0) hg
     have hne2:=HR.out.other (n:=0) hg
     have HG:=Lib.hid hg
     have hzl:(half R.secs k)[k].length=64:=HC.out.secs _ (List.getElem_mem hkc)
     obtain ⟨z,hz⟩:∃ z,z=(half R.secs k)[k]:=⟨_,rfl⟩
     have hgd:wr.drew.heap[g]?=some (.cells (bcells z).toArray 5 (0,0)):=by rw [hz];exact hg
     rw [← hz] at hzl
     have hgd':wr.heap[g]?=some (.cells (bcells z).toArray 5 (0,0)):=hgd
     have hat:At wr (some ⟨q,0,none⟩) (bcells R.secs[k]):=At.of_cells fun j hj=>by
       rw [Nat.zero_add,cell_of_block hq,List.getElem?_toArray,List.getElem?_eq_getElem hj]
     have hatd:At wr.drew (some ⟨q,0,none⟩) (bcells R.secs[k]):=hat
     obtain ⟨cs,hcs⟩:∃ cs,cs=bcells R.secs[k]:=⟨_,rfl⟩
     rw [← hcs] at hat hatd
     have HO:Hid (∀ v ∈ cs,v.oneCell'=true):=Lib.hid (by rw [hcs];exact bcells_one _)
     have hln:Hid (cs.length=Nat.min 64 64*1):=Lib.hid (by rw [hcs,bcells_length,h64];rfl)
     have hfit:0+cs.length≤(bcells z).toArray.size:=by rw [hcs,List.size_toArray,bcells_length,bcells_length,h64,hzl];decide
     have HCS:=Lib.hid hcs
     have H64:=Lib.hid h64
     have hZL:=Lib.hid hzl
     have C1:=Lib.hid c1
     have K:Hid (∀ {u:World},Touch (fun k=>k=g) wr u→u.cell? ⟨cd,0,none⟩=some (.slice (some ⟨cl,0,none⟩) M cc)∧u.cell? ⟨cl,k,none⟩=some (.slice (some ⟨g,0,none⟩) 64 64)∧u.cell? ⟨rd,0,none⟩=some (.slice (some ⟨rl,0,none⟩) M rc)∧u.cell? ⟨rl,k,none⟩=some (.slice (some ⟨q,0,none⟩) 64 64)):=Lib.hid (fun ht=>⟨ht.cell c0 hne1.1,ht.cell c1 hne1.2,ht.cell f0 hne2.1,ht.cell f1 hne2.2⟩)
     clear hg hq h64 hz hzl hcs hne1 hne2
     go_wp2_with fail
     go_region_held3 (fun w' => w'.cell? ⟨cd,0,none⟩=some (.slice (some ⟨cl,0,none⟩) M cc)∧w'.cell? ⟨cl,k,none⟩=some (.slice (some ⟨g,0,none⟩) 64 64)∧w'.cell? ⟨rd,0,none⟩=some (.slice (some ⟨rl,0,none⟩) M rc)∧w'.cell? ⟨rl,k,none⟩=some (.slice (some ⟨q,0,none⟩) 64 64)) (first | go_keep | exact K.out hT2) (first
       | (refine step_copy_any rowU8 rfl (.tmp 30) (.tmp 37) 24 (by rfl) (some ⟨g,0,none⟩) (some ⟨q,0,none⟩) 64 64 64 64 (by simp [Act.eval]) (by simp [Act.eval]) g 0 (bcells z).toArray 5 (by first | exact hgd | exact hgd') cs hln.out (fun _=>rfl) (by first | exact hat | exact hatd) hfit HO.out ?_;intro w2 hg2 ht2;have hT2:Touch (fun k=>k=g) wr w2:=(by first | exact ht2 | exact (Touch.refl _ wr).drew.trans ht2))
       | fail)
     have er:(List.take 0 (bcells z).toArray.toList ++ cs ++ List.drop (0+cs.length) (bcells z).toArray.toList).toArray=(bcells R.secs[k]).toArray:=by
       rw [HCS.out]
       simp [bcells_length,H64.out,hZL.out]
     rw [er] at hg2
     have hne:=HC.out.lt
     have HN:Hid (IsRef w2 w.heap.size cd cl cc ⟨half R.secs (k+1),-1,false,0⟩):=Lib.hid (by
       have:=HC.out.setRow k hkc g (by exact C1.out) R.secs[k] H64.out hT2 hg2
       dsimp only at this
       rwa [half_set _ _ hkR] at this)
     have HB2:Hid (Below w.heap.size w w2):=Lib.hid (HB.out.trans (hT2.below HB.out.size (fun x hx e=>by
       obtain ⟨gs,g1,g2,g3,g4⟩:=HC.out.row
       have hkg:k<gs.length:=by rw [g1];exact hkc
       have:wr.cell? ⟨cl,k,none⟩=some (sl64 gs[k]):=cells_of_owns g2 k _ (by rw [List.getElem?_map,List.getElem?_eq_getElem hkg];rfl)
       have h2:=this.symm.trans C1.out
       unfold sl64 at h2
       have h3:gs[k]=g:=by simpa using h2
       have:=(g3 k hkg hkc).2
       omega)))
     clear er hg2 ht2 hT2 hgd hgd' hat hatd hfit f0 c0 c1 f1 hne
     go_wp2
     go_roundw
     case rel=>exact ⟨k+1,by omega,by go_num,HB2,HN⟩
     case measure=>simp [intOf];omega
   · have hke:k=M:=by omega
     subst hke
     go_wp2
     go_ret
     have hc:=HC.out
     rw [HM.out,half_all] at hc
     exact ⟨cd,cl,cc,rfl,HB.out,hc⟩
def Same (D R:Dsk):Prop:=R.secs=D.secs∧R.blown=D.blown∧R.writes=D.writes∧(R.left=D.left∨(R.left<0∧D.left<0))
theorem Same.write {D R:Dsk} (h:Same D R) (n:Int) (b:List UInt8):(R.write n b).1=(D.write n b).1∧Same (D.write n b).2 (R.write n b).2:=by
 obtain ⟨h1,h2,h3,h4⟩:=h
 have h0:(R.left=0)↔(D.left=0):=by omega
 unfold Dsk.write
 rw [h1,h2]
 split
 · exact ⟨rfl,h1,h2,h3,h4⟩
 · simp only [h0]
   split
   · exact ⟨rfl,rfl,rfl,h3,h4⟩
   · refine ⟨rfl,rfl,rfl,by dsimp only;rw [h3],?_⟩
     dsimp only
     split <;> split <;> omega
theorem Same.fuse {D R:Dsk} (h:Same D R) (n:Int):Same { D with left:=n } { R with left:=max (-1) n }:=⟨h.1,h.2.1,h.2.2.1,by dsimp only;omega⟩
end Go.Proofs.YtgbikngicidbkaaGreatDoor
