/- The package markets: Without;conditions: those typed. -/
import Derived.Test.YtmmmjohoihpbeaaGreatQOJwGaJwFiJwFf
import Derived.Test.YtmmmjohoihpbeaaGreatQOJwVJwMJwW
import Derived.Deep.CutBlock
import Derived.Deep.DeepCutAuto
namespace Go.Proofs.YtmmmjohoihpbeaaGreat
section
open Go.RowKit Go.Shelf
set_option linter.unusedVariables false
set_option linter.unusedSimpArgs false
attribute [local go_sem] Oper.semAt_some
theorem HdB.vals {w:World} {b:Nat} {L:List (List Int)} (h:HdB w b L):∃ vs,IIv w (fun _=>True) vs L∧∀ i (hi:i<vs.length),w.cell? ⟨b,0+i,none⟩=some vs[i]:=by
 obtain ⟨C,h1,h2,h3⟩:=h
 refine ⟨C.toList,⟨by rw [Array.length_toList];exact h2,fun i hi => ?_⟩,fun i hi => ?_⟩
 · obtain ⟨x,y,z,h4,h5⟩:=h3 i hi
   exact ⟨x,y,z,by rw [← h4,Array.getElem?_toList],h5,fun _ _ _ _=>trivial⟩
 · rw [cell_of_block h1,Nat.zero_add]
   have hi':i<C.size:=by simpa using hi
   rw [Array.getElem?_eq_getElem hi'];simp
theorem HdB.isIIp {w:World} {b:Nat} {L:List (List Int)} (h:HdB w b L) (hm:L.length≤maxLen):∃ vs,IsIIp w (fun _=>True) (some ⟨b,0,none⟩) L.length L.length vs L:=by
 have hlt:=h.lt
 obtain ⟨vs,h1,h2⟩:=h.vals
 exact ⟨vs,rfl,Nat.le_refl _,hm,h1,.inr ⟨b,0,rfl,trivial,hlt,h2⟩⟩
theorem mktB_set {m:MkC} (h:mktB m=true) (i:Nat):mktB ⟨m.r,m.b.set i [],m.o⟩=true:=by
 obtain ⟨h1,h2,h3,h4,h5⟩:=mktB_bd h
 unfold mktB
 simp only [Bool.and_eq_true,decide_eq_true_eq,List.all_eq_true,List.length_set]
 refine ⟨h1,h2,h3,h4,fun l hl => ?_⟩
 rcases List.mem_or_eq_of_mem_set hl with hl | rfl
 · exact h5 l hl
 · rfl
theorem tilL_keep {α:Type} {L:List α} {d:α} {j:Nat} (hj:j<L.length) (h:L[j]=d):tilL L d (j+1)=tilL L d j:=by
 apply List.ext_getElem
 · simp [tilL]
 · intro i h1 h2
   have hi:i<L.length:=by simpa [tilL] using h2
   simp only [tilL,List.getElem_map,List.getElem_range]
   by_cases e:i<j
   · rw [if_pos e,if_pos (by omega)]
   · rw [if_neg e]
     by_cases e2:i=j
     · subst e2;rw [if_pos (by omega),getD_get hi];exact h
     · rw [if_neg (by omega)]
class Bel (w W:World):Prop where
 out:Below w.heap.size w W
instance belRefl (w:World):Bel w w:=⟨Below.refl _ _⟩
instance belDrew (w W:World) [h:Bel w W]:Bel w W.drew:=⟨h.out.drew⟩
instance belAlloc (w W:World) (o:Obj) [h:Bel w W]:Bel w (W.alloc o):=⟨h.out.alloc h.out.size _⟩
theorem Bel.then {w W W':World} (h:Bel w W) (hb:Below W.heap.size W W'):Bel w W':=⟨h.out.trans (hb.mono h.out.size)⟩
class NewBlk (w W:World) (T:Nat) (o:outParam Obj):Prop where
 at_:W.heap[T]?=some o
 ge:w.heap.size≤T
instance newAlloc (w W:World) (o:Obj) [h:Bel w W]:NewBlk w (W.alloc o) W.heap.size o:=⟨heap_new W o,h.out.size⟩
instance newDrew (w W:World) (T:Nat) (o:Obj) [h:NewBlk w W T o]:NewBlk w W.drew T o:=⟨h.at_,h.ge⟩
instance newLater (w W:World) (T:Nat) (o o':Obj) [h:NewBlk w W T o]:NewBlk w (W.alloc o') T o:=⟨below_heap ((Below.refl W.heap.size W).alloc (Nat.le_refl _) o') h.at_ (lt_of_heap h.at_),h.ge⟩
theorem NewBlk.later {w W W':World} {T:Nat} {o:Obj} (h:NewBlk w W T o) (hb:Below W.heap.size W W'):NewBlk w W' T o:=⟨below_heap hb h.at_ (lt_of_heap h.at_),h.ge⟩
abbrev Z3:Obj:=.cells #[.slice none 0 0,.slice none 0 0,.slice none 0 0] 25 (0,0)
theorem blk3 {W:World} {T:Nat} (h:W.heap[T]?=some Z3):(W.cell? ⟨T,0,none⟩=some (.slice none 0 0)∧W.cell? ⟨T,1,none⟩=some (.slice none 0 0)∧W.cell? ⟨T,2,none⟩=some (.slice none 0 0))∧W.frozen? ⟨T,0,none⟩=false∧W.frozen? ⟨T,1,none⟩=false∧W.frozen? ⟨T,2,none⟩=false:=by
 refine ⟨⟨?_,?_,?_⟩,blk_free h,blk_free h,blk_free h⟩ <;> (rw [cell_of_block h];rfl)
theorem wo_fin {w1 W:World} {T B n:Nat} {a1 a2:Option Addr} {K no:Nat} {r o:List Int} (hb:Bel w1 W) (hT:W.heap[T]?=some Z3) (hT1:w1.heap.size≤T) (hB:W.heap[B]?=some (.cells (Array.replicate n (.slice none 0 0)) 22 (0,0))) (hB1:w1.heap.size≤B) (h1:IsI W a1 K K r) (h2:IsI W a2 no no o) :
   Below w1.heap.size w1 (((W.setCell ⟨T,0,none⟩ (.slice a1 K K)).setCell ⟨T,1,none⟩ (.slice (some ⟨B,0,none⟩) n n)).setCell ⟨T,2,none⟩ (.slice a2 no no))∧w1.heap.size≤T∧w1.heap.size≤B∧T≠B∧(((W.setCell ⟨T,0,none⟩ (.slice a1 K K)).setCell ⟨T,1,none⟩ (.slice (some ⟨B,0,none⟩) n n)).setCell ⟨T,2,none⟩ (.slice a2 no no)).heap[T]?=some (.cells #[.slice a1 K K,.slice (some ⟨B,0,none⟩) n n,.slice a2 no no] 25 (0,0)) ∧
     HdB (((W.setCell ⟨T,0,none⟩ (.slice a1 K K)).setCell ⟨T,1,none⟩ (.slice (some ⟨B,0,none⟩) n n)).setCell ⟨T,2,none⟩ (.slice a2 no no)) B (List.replicate n [])∧IsI (((W.setCell ⟨T,0,none⟩ (.slice a1 K K)).setCell ⟨T,1,none⟩ (.slice (some ⟨B,0,none⟩) n n)).setCell ⟨T,2,none⟩ (.slice a2 no no)) a1 K K r∧IsI (((W.setCell ⟨T,0,none⟩ (.slice a1 K K)).setCell ⟨T,1,none⟩ (.slice (some ⟨B,0,none⟩) n n)).setCell ⟨T,2,none⟩ (.slice a2 no no)) a2 no no o:=by
 have hne:T≠B:=fun e=>by
   subst e
   rw [hT] at hB
   exact absurd (Obj.cells.inj (Option.some.inj hB)).2.1 (by decide)
 have t3:Touch (fun k=>k=T) W (((W.setCell ⟨T,0,none⟩ (.slice a1 K K)).setCell ⟨T,1,none⟩ (.slice (some ⟨B,0,none⟩) n n)).setCell ⟨T,2,none⟩ (.slice a2 no no)):=(((Touch.refl (fun k=>k=T) W).setCell _ _ (.inl rfl)).setCell _ _ (.inl rfl)).setCell _ _ (.inl rfl)
 have g1:=heap_setCell_same W T 0 _ _ (.slice a1 K K) hT
 have g2:=heap_setCell_same _ T 1 _ _ (.slice (some ⟨B,0,none⟩) n n) g1
 have g3:=heap_setCell_same _ T 2 _ _ (.slice a2 no no) g2
 have hty:∀ k,k=T→∃ C t,W.heap[k]?=some (.cells C t (0,0))∧∀ (i:Nat) (z:Int),C[i]?≠some (.int .i64 z):=fun k e=>by
   subst e
   refine ⟨_,_,hT,fun i z e2 => ?_⟩
   rw [List.getElem?_toArray] at e2
   have:=List.mem_of_getElem? e2
   simp at this
 exact ⟨hb.out.trans (t3.below hb.out.size (fun k hk e=>by omega)),hT1,hB1,hne,g3,HdB.nils (t3.heap hB (fun e=>hne e.symm)),isI_touch_ty h1 t3 hty,isI_touch_ty h2 t3 hty⟩
theorem blk_at {w1 W:World} {T T':Nat} {o:Obj} [h:NewBlk w1 W T' o] (e:T=T'):W.heap[T]?=some o:=by subst e;exact h.at_
theorem wo_fin2 {w1 W:World} {T B n:Nat} {a1 a2:Option Addr} {K no:Nat} {r o:List Int} (hb:Bel w1 W) (hT:T=W.heap.size) (hB:W.heap[B]?=some (.cells (Array.replicate n (.slice none 0 0)) 22 (0,0))) (hB1:w1.heap.size≤B) (h1:IsI W a1 K K r) (h2:IsI W a2 no no o) :
   Below w1.heap.size w1 (W.alloc (.cells #[.slice a1 K K,.slice (some ⟨B,0,none⟩) n n,.slice a2 no no] 25 (0,0)))∧w1.heap.size≤T∧w1.heap.size≤B∧T≠B∧(W.alloc (.cells #[.slice a1 K K,.slice (some ⟨B,0,none⟩) n n,.slice a2 no no] 25 (0,0))).heap[T]?=some (.cells #[.slice a1 K K,.slice (some ⟨B,0,none⟩) n n,.slice a2 no no] 25 (0,0)) ∧
     HdB (W.alloc (.cells #[.slice a1 K K,.slice (some ⟨B,0,none⟩) n n,.slice a2 no no] 25 (0,0))) B (List.replicate n [])∧IsI (W.alloc (.cells #[.slice a1 K K,.slice (some ⟨B,0,none⟩) n n,.slice a2 no no] 25 (0,0))) a1 K K r∧IsI (W.alloc (.cells #[.slice a1 K K,.slice (some ⟨B,0,none⟩) n n,.slice a2 no no] 25 (0,0))) a2 no no o:=by
 subst hT
 have hlt:=lt_of_heap hB
 have hba:Below W.heap.size W (W.alloc (.cells #[.slice a1 K K,.slice (some ⟨B,0,none⟩) n n,.slice a2 no no] 25 (0,0))):=(Below.refl _ _).alloc (Nat.le_refl _) _
 exact ⟨hb.out.trans (hba.mono hb.out.size),hb.out.size,hB1,by omega,heap_new W _,HdB.nils (below_heap hba hB hlt),h1.below hba,h2.below hba⟩
theorem wo_fin3 {w1 W:World} {T B n:Nat} {a1 a2:Option Addr} {K no:Nat} {r o:List Int} (hb:Bel w1 W) (hT:T=W.heap.size) (hB:B=W.heap.size+1) (h1:IsI W a1 K K r) (h2:IsI W a2 no no o) :
   Below w1.heap.size w1 ((W.alloc (.cells #[.slice a1 K K,.slice (some ⟨B,0,none⟩) n n,.slice a2 no no] 25 (0,0))).alloc (.cells (Array.replicate n (.slice none 0 0)) 22 (0,0)))∧w1.heap.size≤T∧w1.heap.size≤B∧T≠B∧((W.alloc (.cells #[.slice a1 K K,.slice (some ⟨B,0,none⟩) n n,.slice a2 no no] 25 (0,0))).alloc (.cells (Array.replicate n (.slice none 0 0)) 22 (0,0))).heap[T]?=some (.cells #[.slice a1 K K,.slice (some ⟨B,0,none⟩) n n,.slice a2 no no] 25 (0,0)) ∧
     HdB ((W.alloc (.cells #[.slice a1 K K,.slice (some ⟨B,0,none⟩) n n,.slice a2 no no] 25 (0,0))).alloc (.cells (Array.replicate n (.slice none 0 0)) 22 (0,0))) B (List.replicate n [])∧IsI ((W.alloc (.cells #[.slice a1 K K,.slice (some ⟨B,0,none⟩) n n,.slice a2 no no] 25 (0,0))).alloc (.cells (Array.replicate n (.slice none 0 0)) 22 (0,0))) a1 K K r∧IsI ((W.alloc (.cells #[.slice a1 K K,.slice (some ⟨B,0,none⟩) n n,.slice a2 no no] 25 (0,0))).alloc (.cells (Array.replicate n (.slice none 0 0)) 22 (0,0))) a2 no no o:=by
 obtain ⟨hba,m0,m1⟩:=alloc2_facts W (.cells #[.slice a1 K K,.slice (some ⟨B,0,none⟩) n n,.slice a2 no no] 25 (0,0)) (.cells (Array.replicate n (.slice none 0 0)) 22 (0,0))
 subst hT
 have hs:=hb.out.size
 exact ⟨hb.out.trans (hba.mono hs),hs,by omega,by omega,m0,HdB.nils (by rw [hB];rw [hB] at m1;exact m1),h1.below hba,h2.below hba⟩
theorem keepS {w1 W:World} {T:Nat} {a b c:Value} (h:Bel w1 W) (hT:w1.heap.size≤T):Below w1.heap.size w1 (((W.setCell ⟨T,0,none⟩ a).setCell ⟨T,1,none⟩ b).setCell ⟨T,2,none⟩ c) :=
 ((h.out.setCell (p:=⟨T,0,none⟩) hT _).setCell (p:=⟨T,1,none⟩) hT _).setCell (p:=⟨T,2,none⟩) hT _
structure WoJ (w1:World) (T B:Nat) (ra2 oa2:Option Addr) (r o:List Int) (n:Nat) (L:List (List Int)) (W:World):Prop where
 bel:Below w1.heap.size w1 W
 t:W.heap[T]?=some (.cells #[.slice ra2 r.length r.length,.slice (some ⟨B,0,none⟩) n n,.slice oa2 o.length o.length] 25 (0,0))
 d:HdB W B L
 r:IsI W ra2 r.length r.length r
 o:IsI W oa2 o.length o.length o
theorem HdB.ty {w:World} {b:Nat} {L:List (List Int)} (h:HdB w b L):∃ C t,w.heap[b]?=some (.cells C t (0,0))∧∀ (i:Nat) (z:Int),C[i]?≠some (.int .i64 z):=by
 obtain ⟨C,h1,h2,h3⟩:=h
 refine ⟨_,_,h1,fun i z e => ?_⟩
 have hi:=(Array.getElem?_eq_some_iff.1 e).1
 obtain ⟨x,y,z',h4,_⟩:=h3 i (by omega)
 rw [e] at h4;cases h4
theorem WoJ.later {w1:World} {T B:Nat} {ra2 oa2:Option Addr} {r o:List Int} {n:Nat} {L:List (List Int)} {W W':World} (h:WoJ w1 T B ra2 oa2 r o n L W) (hb:Below W.heap.size W W'):WoJ w1 T B ra2 oa2 r o n L W' :=
 ⟨h.bel.trans (hb.mono h.bel.size),below_heap hb h.t (lt_of_heap h.t),h.d.below hb,h.r.below hb,h.o.below hb⟩
theorem WoJ.set {w1:World} {T B:Nat} {ra2 oa2:Option Addr} {r o:List Int} {n:Nat} {L:List (List Int)} {W:World} (h:WoJ w1 T B ra2 oa2 r o n L W) (hB:w1.heap.size≤B) (hne:T≠B) {j:Nat} (hj:j<L.length) {x:Option Addr} {y z:Nat} {l:List Int} (hl:IsI W x y z l):WoJ w1 T B ra2 oa2 r o n (L.set j l) (W.setCell ⟨B,j,none⟩ (.slice x y z)):=by
 obtain ⟨C,t,h1,h2⟩:=h.d.ty
 exact ⟨h.bel.setCell (p:=⟨B,j,none⟩) hB _,(Below.heap_setCell W ⟨B,j,none⟩ _ T hne).trans h.t,h.d.set hj hl,isI_set_ty h.r h1 h2 _,isI_set_ty h.o h1 h2 _⟩
set_option maxRecDepth 100000 in
set_option maxHeartbeats 8000000 in
theorem without_any (x:MkA) (m:MkC) (i:Nat) (w:World) (h:MkT w x m) (hi:i<m.b.length) :
   Calls Tryz.prog 79 #[.agg x.cells.toArray,.int .i64 (i:Int)] w fun e W => ∃ y:MkA,e=.returned (.tuple #[.agg y.cells.toArray,.int .i64 0])∧Below w.heap.size w W∧MkT W y ⟨m.r,m.b.set i [],m.o⟩:=by
 obtain ⟨ra,rn,rc,ba,bn,bc,bv,oa,on,oc⟩:=x
 have hr:=h.r
 have hbb:=h.b
 have ho:=h.o
 unfold MkA.cells
 dsimp only at hr hbb ho ⊢
 obtain rfl:=hr.1
 obtain rfl:=hbb.1
 obtain rfl:=ho.1
 have hmo:=mktB_ok h.ok
 have hk8:=hmo.hk.2
 have hn8:=hmo.hn.2
 have hol:=(ord_bd (mktB_bd h.ok).2.2.2.1).1
 have hmk:=make_lists m.b.length (by omega)
 have HOK:=Lib.hid h.ok
 have HOL:=Lib.hid hol
 have dd1:decide ((i:Int)<0)=false:=decide_eq_false (by omega)
 have dd2:decide ((m.b.length:Int)≤(i:Int))=false:=decide_eq_false (by omega)
 obtain ⟨hb0,m0,m1⟩:=alloc2_facts w (.cells #[.slice ra m.r.length rc,.slice ba m.b.length bc,.slice oa m.o.length oc] 25 (0,0)) (.cells #[.slice none 0 0,.slice none 0 0,.slice none 0 0] 25 (0,0))
 have HM:=Lib.hid (h.below hb0)
 clear h hr hbb ho hmo hol
 go_enter Tryz.func79,Tryz.ntmps79
 go_wp2_with fail
 generalize ((w.alloc (.cells #[.slice ra m.r.length rc,.slice ba m.b.length bc,.slice oa m.o.length oc] 25)).alloc (.cells #[.slice none 0 0,.slice none 0 0,.slice none 0 0] 25))=W at hb0 m0 m1 HM ⊢
 have c0:W.cell? ⟨w.heap.size,0,none⟩=some (.slice ra m.r.length rc):=by rw [cell_of_block m0];rfl
 have c1:W.cell? ⟨w.heap.size,1,none⟩=some (.slice ba m.b.length bc):=by rw [cell_of_block m0];rfl
 have c2:W.cell? ⟨w.heap.size,2,none⟩=some (.slice oa m.o.length oc):=by rw [cell_of_block m0];rfl
 have HB0:=Lib.hid hb0
 have H1:=Lib.hid m1
 clear hb0 m0 m1
 refine (mcheck_any _ ⟨ra,m.r.length,rc,ba,m.b.length,bc,bv,oa,m.o.length,oc⟩ m W HM.out.v (by omega)).mono ?_;rintro e w1 ⟨rfl,hb1⟩
 rw [HOK.out]
 have HB1:=Lib.hid (HB0.out.trans (hb1.mono HB0.out.size))
 have HM1:=Lib.hid (HM.out.below hb1)
 have H11:=Lib.hid (below_heap hb1 H1.out (lt_of_heap H1.out))
 have k0:=cell_later hb1 c0
 have k1:=cell_later hb1 c1
 have k2:=cell_later hb1 c2
 have dd3:decide (m.b.length≤i)=false:=decide_eq_false (by omega)
 have hli:¬ m.b.length≤i:=by omega
 have hr1:IsI w1 ra m.r.length rc m.r:=HM1.out.r
 have hq1:IsI w1 oa m.o.length oc m.o:=HM1.out.o
 have HR1:=Lib.hid hr1
 have HQ1:=Lib.hid hq1
 clear hb1 c0 c1 c2 HM H1 HB0 hr1 hq1
 go_upto_region 3 with fail
 go_cut [6] (fun s6 wx => ∃ T B ra2 oa2,s6=.pointer (some ⟨T,0,none⟩)∧Hid (Below w1.heap.size w1 wx∧w1.heap.size≤T∧w1.heap.size≤B∧T≠B∧wx.heap[T]?=some (.cells #[.slice ra2 m.r.length m.r.length,.slice (some ⟨B,0,none⟩) m.b.length m.b.length,.slice oa2 m.o.length m.o.length] 25 (0,0))∧HdB wx B (List.replicate m.b.length [])∧IsI wx ra2 m.r.length m.r.length m.r∧IsI wx oa2 m.o.length m.o.length m.o))
 case first =>
   go_region_held3 (fun w' => w'.cell? ⟨w.heap.size,0,none⟩=some (.slice ra m.r.length rc)∧w'.cell? ⟨w.heap.size,1,none⟩=some (.slice ba m.b.length bc)∧w'.cell? ⟨w.heap.size,2,none⟩=some (.slice oa m.o.length oc)) (first
       | with_reducible exact ⟨cell_later (Bel.out (w:=w1)) k0,cell_later (Bel.out (w:=w1)) k1,cell_later (Bel.out (w:=w1)) k2⟩
       | exact ⟨cell_later (keepS (w1:=w1) inferInstance (by omega)) k0,cell_later (keepS (w1:=w1) inferInstance (by omega)) k1,cell_later (keepS (w1:=w1) inferInstance (by omega)) k2⟩
       | fail) (first
     | (go_at_call 57;((with_reducible refine (iclone_any ra m.r.length rc m.r _ (HR1.out.below (Bel.out (w:=w1))) (by omega)).mono ?_);rintro e wa ⟨a1,d1,rfl,hba,hoa⟩;haveI ia:Bel w1 wa:=Bel.then inferInstance hba;have caps1:=owns_caps hoa;have hia:=(isI_of_owns hoa rfl).clip;haveI na:=fun (T:Nat) (o:Obj) [h:NewBlk w1 _ T o]=>h.later hba;have sa:=hba.size;(try simp only [World.size_alloc,World.size_drew] at sa)))
     | (go_at_call 69;((with_reducible refine (iclip_any a1 m.r.length d1 _ caps1.1 caps1.2.1 caps1.2.2).mono ?_);rintro e w' ⟨rfl,rfl⟩))
     | (go_at_call 57;((with_reducible refine (iclone_any oa m.o.length oc m.o _ (HQ1.out.below (Bel.out (w:=w1))) (by have:=HOL.out;omega)).mono ?_);rintro e wb ⟨a2,d2,rfl,hbb,hob⟩;haveI ib:Bel w1 wb:=Bel.then inferInstance hbb;haveI iab:Bel wa wb:=Bel.then inferInstance hbb;have caps2:=owns_caps hob;have hib:=(isI_of_owns hob rfl).clip;haveI nb:=fun (T:Nat) (o:Obj) [h:NewBlk w1 _ T o]=>h.later hbb;have sb:=hbb.size;(try simp only [World.size_alloc,World.size_drew] at sb);(try (have t1:=blk3 (NewBlk.at_ (w:=w1) (W:=wb) (T:=w1.heap.size));(try simp only [World.size_alloc,World.size_drew] at t1);obtain ⟨⟨t10,t11,t12⟩,t13,t14,t15⟩:=t1));(try (have t2:=blk3 (NewBlk.at_ (w:=w1) (W:=wb) (T:=(w1.alloc (.cells (Array.replicate m.b.length (.slice none 0 0)) 22 (0,0))).heap.size));(try simp only [World.size_alloc,World.size_drew] at t2);obtain ⟨⟨t20,t21,t22⟩,t23,t24,t25⟩:=t2));(try (have t3:=blk3 (NewBlk.at_ (w:=w1) (W:=wb) (T:=wa.heap.size));(try simp only [World.size_alloc,World.size_drew] at t3);obtain ⟨⟨t30,t31,t32⟩,t33,t34,t35⟩:=t3));(try (have t4:=blk3 (NewBlk.at_ (w:=w1) (W:=wb) (T:=(wa.alloc (.cells (Array.replicate m.b.length (.slice none 0 0)) 22 (0,0))).heap.size));(try simp only [World.size_alloc,World.size_drew] at t4);obtain ⟨⟨t40,t41,t42⟩,t43,t44,t45⟩:=t4));(try (have t5:=blk3 (NewBlk.at_ (w:=w1) (W:=wb.alloc (.cells (Array.replicate m.b.length (.slice none 0 0)) 22 (0,0))) (T:=w1.heap.size));(try simp only [World.size_alloc,World.size_drew] at t5);obtain ⟨⟨t50,t51,t52⟩,t53,t54,t55⟩:=t5));(try (have t6:=blk3 (NewBlk.at_ (w:=w1) (W:=wb.alloc (.cells (Array.replicate m.b.length (.slice none 0 0)) 22 (0,0))) (T:=(w1.alloc (.cells (Array.replicate m.b.length (.slice none 0 0)) 22 (0,0))).heap.size));(try simp only [World.size_alloc,World.size_drew] at t6);obtain ⟨⟨t60,t61,t62⟩,t63,t64,t65⟩:=t6));(try (have t7:=blk3 (NewBlk.at_ (w:=w1) (W:=wb.alloc (.cells (Array.replicate m.b.length (.slice none 0 0)) 22 (0,0))) (T:=wa.heap.size));(try simp only [World.size_alloc,World.size_drew] at t7);obtain ⟨⟨t70,t71,t72⟩,t73,t74,t75⟩:=t7));(try (have t8:=blk3 (NewBlk.at_ (w:=w1) (W:=wb.alloc (.cells (Array.replicate m.b.length (.slice none 0 0)) 22 (0,0))) (T:=(wa.alloc (.cells (Array.replicate m.b.length (.slice none 0 0)) 22 (0,0))).heap.size));(try simp only [World.size_alloc,World.size_drew] at t8);obtain ⟨⟨t80,t81,t82⟩,t83,t84,t85⟩:=t8))))
     | (go_at_call 69;((with_reducible refine (iclip_any a2 m.o.length d2 _ caps2.1 caps2.2.1 caps2.2.2).mono ?_);rintro e w' ⟨rfl,rfl⟩))
     | fail)
   all_goals
     go_wp2_with fail
     go_meet
     first
       | (refine ⟨_,_,_,_,rfl,Lib.hid (wo_fin (w1:=w1) inferInstance ?hT ?hT1 ?hB ?hB1 (hia.below (Bel.out (w:=wa))) (hib.below (Bel.out (w:=wb))))⟩
          case hT=>first | (with_reducible exact NewBlk.at_ (w:=w1)) | (refine blk_at (w1:=w1) (T':=w1.heap.size) (by simp only [World.size_alloc,World.size_drew])) | (refine blk_at (w1:=w1) (T':=(w1.alloc (.cells (Array.replicate m.b.length (.slice none 0 0)) 22 (0,0))).heap.size) (by simp only [World.size_alloc,World.size_drew])) | (refine blk_at (w1:=w1) (T':=(w1.alloc Z3).heap.size) (by simp only [World.size_alloc,World.size_drew])) | (refine blk_at (w1:=w1) (T':=wa.heap.size) (by simp only [World.size_alloc,World.size_drew])) | (refine blk_at (w1:=w1) (T':=(wa.alloc (.cells (Array.replicate m.b.length (.slice none 0 0)) 22 (0,0))).heap.size) (by simp only [World.size_alloc,World.size_drew])) | (refine blk_at (w1:=w1) (T':=(wa.alloc Z3).heap.size) (by simp only [World.size_alloc,World.size_drew])) | (refine blk_at (w1:=w1) (T':=wb.heap.size) (by simp only [World.size_alloc,World.size_drew])) | (refine blk_at (w1:=w1) (T':=(wb.alloc (.cells (Array.replicate m.b.length (.slice none 0 0)) 22 (0,0))).heap.size) (by simp only [World.size_alloc,World.size_drew])) | (refine blk_at (w1:=w1) (T':=(wb.alloc Z3).heap.size) (by simp only [World.size_alloc,World.size_drew]))
          case hT1=>omega
          case hB=>first | (with_reducible exact NewBlk.at_ (w:=w1)) | (refine blk_at (w1:=w1) (T':=w1.heap.size) (by simp only [World.size_alloc,World.size_drew])) | (refine blk_at (w1:=w1) (T':=(w1.alloc (.cells (Array.replicate m.b.length (.slice none 0 0)) 22 (0,0))).heap.size) (by simp only [World.size_alloc,World.size_drew])) | (refine blk_at (w1:=w1) (T':=(w1.alloc Z3).heap.size) (by simp only [World.size_alloc,World.size_drew])) | (refine blk_at (w1:=w1) (T':=wa.heap.size) (by simp only [World.size_alloc,World.size_drew])) | (refine blk_at (w1:=w1) (T':=(wa.alloc (.cells (Array.replicate m.b.length (.slice none 0 0)) 22 (0,0))).heap.size) (by simp only [World.size_alloc,World.size_drew])) | (refine blk_at (w1:=w1) (T':=(wa.alloc Z3).heap.size) (by simp only [World.size_alloc,World.size_drew])) | (refine blk_at (w1:=w1) (T':=wb.heap.size) (by simp only [World.size_alloc,World.size_drew])) | (refine blk_at (w1:=w1) (T':=(wb.alloc (.cells (Array.replicate m.b.length (.slice none 0 0)) 22 (0,0))).heap.size) (by simp only [World.size_alloc,World.size_drew])) | (refine blk_at (w1:=w1) (T':=(wb.alloc Z3).heap.size) (by simp only [World.size_alloc,World.size_drew]))
          case hB1=>omega)
       | (refine ⟨_,_,_,_,rfl,Lib.hid (wo_fin2 (w1:=w1) inferInstance ?hE ?hB ?hB1 (hia.below (Bel.out (w:=wa))) (hib.below (Bel.out (w:=wb))))⟩
          case hE=>first | rfl | simp only [World.size_alloc,World.size_drew]
          case hB=>first | (with_reducible exact NewBlk.at_ (w:=w1)) | (refine blk_at (w1:=w1) (T':=w1.heap.size) (by simp only [World.size_alloc,World.size_drew])) | (refine blk_at (w1:=w1) (T':=(w1.alloc (.cells (Array.replicate m.b.length (.slice none 0 0)) 22 (0,0))).heap.size) (by simp only [World.size_alloc,World.size_drew])) | (refine blk_at (w1:=w1) (T':=(w1.alloc Z3).heap.size) (by simp only [World.size_alloc,World.size_drew])) | (refine blk_at (w1:=w1) (T':=wa.heap.size) (by simp only [World.size_alloc,World.size_drew])) | (refine blk_at (w1:=w1) (T':=(wa.alloc (.cells (Array.replicate m.b.length (.slice none 0 0)) 22 (0,0))).heap.size) (by simp only [World.size_alloc,World.size_drew])) | (refine blk_at (w1:=w1) (T':=(wa.alloc Z3).heap.size) (by simp only [World.size_alloc,World.size_drew])) | (refine blk_at (w1:=w1) (T':=wb.heap.size) (by simp only [World.size_alloc,World.size_drew])) | (refine blk_at (w1:=w1) (T':=(wb.alloc (.cells (Array.replicate m.b.length (.slice none 0 0)) 22 (0,0))).heap.size) (by simp only [World.size_alloc,World.size_drew])) | (refine blk_at (w1:=w1) (T':=(wb.alloc Z3).heap.size) (by simp only [World.size_alloc,World.size_drew]))
          case hB1=>omega)
       | (refine ⟨_,_,_,_,rfl,Lib.hid (wo_fin3 (w1:=w1) (W:=wb) inferInstance ?hE ?hE2 (hia.below (Bel.out (w:=wa))) hib)⟩
          case hE=>rfl
          case hE2=>rfl)
 case rest =>
   obtain ⟨T,B,ra2,oa2,rfl,HC⟩:=hcut
   obtain ⟨w3,rfl⟩:∃ w3:World,w3=wc:=⟨_,rfl⟩
   obtain ⟨h1,h2,h3,h4,h5,h6,h7,h8⟩:=HC.out
   have HTB:Hid (w1.heap.size≤T∧w1.heap.size≤B∧T≠B):=Lib.hid ⟨h2,h3,h4⟩
   have HJ0:Hid (WoJ w1 T B ra2 oa2 m.r m.o m.b.length (tilL (m.b.set i []) [] 0) w3):=Lib.hid ⟨h1,h5,by rw [tilL_zero,List.length_set];exact h6,h7,h8⟩
   have l1:=cell_later h1 k1
   have HK1:=Lib.hid k1
   have hlw:w.heap.size<w1.heap.size:=(addr_of_cell k1).2
   clear h1 h2 h3 h4 h5 h6 h7 h8 HC k0 k1 k2 hmk
   go_wp2_with fail
   clear l1
   go_loopw [40] (fun q wr => ∃ j:Nat,j≤m.b.length∧q=.int .i64 (j:Int)∧Hid (WoJ w1 T B ra2 oa2 m.r m.o m.b.length (tilL (m.b.set i []) [] j) wr)) (fun q _=>m.b.length - (intOf q).toNat)
   case atStart=>exact ⟨0,Nat.zero_le _,rfl,HJ0⟩
   case round =>
     obtain ⟨j,hj,rfl,HJ⟩:=hrel
     by_cases hlt:j<m.b.length
     · obtain ⟨b4,o4,x4,y4,z4,e4,hb4,hc4,hI4⟩:=HM1.out.b.at j hlt
       dsimp only at e4
       subst e4
       have kb:wr.cell? ⟨b4,o4+j,none⟩=some (.slice x4 y4 z4):=(HJ.out.bel.cell (p:=⟨b4,o4+j,none⟩) hb4).trans hc4
       have HBI:=Lib.hid (hI4.below HJ.out.bel)
       have HSK:Hid ((m.b.set i [])[j]'(by simpa using hlt)=if j=i then [] else m.b[j]):=Lib.hid (by
         rw [List.getElem_set]
         by_cases e:i=j
         · rw [if_pos e,if_pos e.symm]
         · rw [if_neg e,if_neg (fun h=>e h.symm)])
       have hbl8:m.b[j].length≤17592186044416:=by
         have h9:=(mktB_bd HOK.out).2.2.2.2 _ (List.getElem_mem hlt)
         by_cases e:m.b[j].length=0
         · omega
         · have:=(okB_bd ((bidB_bd h9).2.1 e)).2;omega
       have kT:wr.cell? ⟨T,1,none⟩=some (.slice (some ⟨B,0,none⟩) m.b.length m.b.length):=by rw [cell_of_block HJ.out.t];rfl
       generalize m.b[j]=bid at HBI HSK hbl8
       have hyy:=HBI.out.1
       subst hyy
       clear hc4 hI4
       go_upto_block 1 with fail
       go_cut [40] (fun s wx=>s=.int .i64 (j:Int)∧Hid (WoJ w1 T B ra2 oa2 m.r m.o m.b.length (tilL (m.b.set i []) [] (j+1)) wx))
       case first =>
         by_cases hji:j=i
         · have dj:((j:Int) != (i:Int))=false:=by rw [bne_eq_false_iff_eq];omega
           have HE:Hid (tilL (m.b.set i []) [] (j+1)=tilL (m.b.set i []) [] j):=Lib.hid (tilL_keep (by simpa using hlt) (by rw [HSK.out,if_pos hji]))
           clear hji
           go_wp2_with fail
           go_meet
           exact ⟨rfl,by rw [HE.out];exact HJ⟩
         · have dj:((j:Int) != (i:Int))=true:=by rw [bne_iff_ne];omega
           have HE:Hid (tilL (m.b.set i []) [] (j+1)=(tilL (m.b.set i []) [] j).set j bid):=Lib.hid (by
             rw [← tilL_set (m.b.set i []) [] j (by simpa using hlt),HSK.out,if_neg hji])
           have hjl:j<(tilL (m.b.set i []) [] j).length:=by rw [tilL_length];simpa using hlt
           clear hji
           go_wp2_with fail
           go_region_with (first
             | (go_at_call 57;refine (iclone_any x4 bid.length z4 bid _ (HBI.out.below (Bel.out (w:=wr))) hbl8).mono ?_;rintro e wa ⟨a5,d5,rfl,hba,hoa⟩;haveI ia:Bel wr wa:=Bel.then inferInstance hba;have kTa:=cell_later (Bel.out (w:=wr) (W:=wa)) kT;have caps:=owns_caps hoa;have hia:=(isI_of_owns hoa rfl).clip;have hJa:=HJ.out.later (Bel.out (w:=wr) (W:=wa));obtain ⟨xq,yq,zq,cB,zB,_⟩:=hJa.d.cell j hjl)
             | (go_at_call 69;refine (iclip_any a5 bid.length d5 _ caps.1 caps.2.1 caps.2.2).mono ?_;rintro e w' ⟨rfl,rfl⟩))
           all_goals
             have HJS:=Lib.hid (hJa.set HTB.out.2.1 HTB.out.2.2 hjl hia)
             clear kTa cB zB hia hJa hoa hba
             go_wp2_with fail
             go_meet
             exact ⟨rfl,by rw [HE.out];first | exact HJS | exact Lib.hid (HJS.out.later (Below.refl _ _).drew)⟩
       case rest =>
         obtain ⟨rfl,HJ2⟩:=hcut
         clear kb kT
         go_wp2_with fail
         go_roundw
         case rel=>exact ⟨j+1,by omega,by go_num,HJ2⟩
         case measure=>simp [intOf];omega
     · have hjj:j=m.b.length:=by omega
       subst hjj
       have HR1:=Lib.hid (below_heap HJ.out.bel H11.out (lt_of_heap H11.out))
       have HTT:=Lib.hid HJ.out.t
       go_wp2_with (first
         | (refine wpList_load_mid rfl 25 (.tmp 6) rfl T 0 rfl [.slice ra2 m.r.length m.r.length,.slice (some ⟨B,0,none⟩) m.b.length m.b.length,.slice oa2 m.o.length m.o.length] _ (rangeAt_row HTT.out) Tryz.underlying25 rfl info_mkt ?_)
         | (refine wpList_store_whole rfl 25 (.tmp 4) (.tmp 56) rfl (w.heap.size+1) [.slice ra2 m.r.length m.r.length,.slice (some ⟨B,0,none⟩) m.b.length m.b.length,.slice oa2 m.o.length m.o.length] _ _ HR1.out rfl rfl rfl info_mkt (mkt_one _ _ _ _ _ _ _ _ _) ?_;intro w4 ht4 hg4)
         | fail)
       refine bodyPost_ret (results_cell_tmp rfl _ _ (w.heap.size+1) 0 rfl [.slice ra2 m.r.length m.r.length,.slice (some ⟨B,0,none⟩) m.b.length m.b.length,.slice oa2 m.o.length m.o.length] _ (rangeAt_row hg4) Tryz.underlying25 rfl info_mkt) rfl ?_
       have hty:∀ k,k=w.heap.size+1→∃ C t,wr.heap[k]?=some (.cells C t (0,0))∧∀ (i:Nat) (z:Int),C[i]?≠some (.int .i64 z):=fun k e=>by
         subst e
         refine ⟨_,_,HR1.out,fun i z e2 => ?_⟩
         rw [List.getElem?_toArray] at e2
         have:=List.mem_of_getElem? e2
         simp at this
       have hBne:B≠w.heap.size+1:=by have:=HTB.out.2.1;have:=lt_of_heap H11.out;omega
       have hd:=HJ.out.d
       rw [show tilL (m.b.set i []) [] m.b.length=m.b.set i [] by have:=tilL_full (m.b.set i []) ([]:List Int);rwa [List.length_set] at this] at hd
       have hd4:HdB w4 B (m.b.set i []):=by
         obtain ⟨C,h1,h2,h3⟩:=hd
         refine ⟨C,ht4.heap h1 hBne,h2,fun q hq => ?_⟩
         obtain ⟨x',y',z',q1,q2⟩:=h3 q hq
         exact ⟨x',y',z',q1,isI_touch_ty q2 ht4 hty⟩
       obtain ⟨vs,hvs⟩:=hd4.isIIp (by rw [List.length_set];unfold maxLen;omega)
       rw [List.length_set] at hvs
       refine ⟨⟨ra2,m.r.length,m.r.length,some ⟨B,0,none⟩,m.b.length,m.b.length,vs,oa2,m.o.length,m.o.length⟩,rfl,HB1.out.trans ((HJ.out.bel.mono HB1.out.size).trans (ht4.below (Nat.le_trans HB1.out.size HJ.out.bel.size) (fun k hk e=>by omega))),⟨⟨isI_touch_ty HJ.out.r ht4 hty,fun _ _ _ _=>trivial⟩,hvs,⟨isI_touch_ty HJ.out.o ht4 hty,fun _ _ _ _=>trivial⟩⟩,mktB_set HOK.out i⟩
end
end Go.Proofs.YtmmmjohoihpbeaaGreat
