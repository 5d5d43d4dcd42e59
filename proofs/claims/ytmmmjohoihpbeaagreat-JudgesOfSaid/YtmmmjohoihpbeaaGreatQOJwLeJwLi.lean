/- The package judges: Least;conditions: those typed. -/
import Derived.Test.YtmmmjohoihpbeaaGreatQOJwNoJwTrJwTuJwLsJwPd
namespace Go.Proofs.YtmmmjohoihpbeaaGreat
section
open Go.RowKit Go.Shelf
set_option linter.unusedVariables false
set_option linter.unusedSimpArgs false
attribute [local go_sem] Oper.semAt_some
def LstQ (m:MkC) (has P:List Int) (w:World) (e:Ending) (W:World):Prop:=∃ v:Bool,e=.returned (.bool v)∧(v=true↔mktB m=true∧LeastC m.r m.b has P)∧Below w.heap.size w W
open Classical in
noncomputable def lsP (m:MkC) (has P:List Int) (i:Nat):Bool :=
 if i=0 then decide (mktB m=true∧JM.EvenP m.r m.b has P) else if i=1 then (sumV m.r m.b has == topV m.r m.b) else decide (wantL2 m.r m.b has m.b.length=P)
theorem lsP_all (m:MkC) (has P:List Int):((List.range 3).all (lsP m has P))=true↔mktB m=true∧LeastC m.r m.b has P:=by
 have h0:lsP m has P 0=true↔mktB m=true∧JM.EvenP m.r m.b has P:=by simp [lsP]
 have h1:lsP m has P 1=true↔sumV m.r m.b has=topV m.r m.b:=by simp [lsP]
 have h2:lsP m has P 2=true↔wantL2 m.r m.b has m.b.length=P:=by simp [lsP]
 rw [List.all_eq_true]
 constructor
 · intro h
   have a0:=h0.1 (h 0 (by simp))
   exact ⟨a0.1,a0.2,h1.1 (h 1 (by simp)),(paid_list a0.2).2 (h2.1 (h 2 (by simp)))⟩
 · rintro ⟨hm,hl⟩ i hi
   have hi3:=List.mem_range.1 hi
   match i,hi3 with
   | 0,_=>exact h0.2 ⟨hm,hl.ev⟩
   | 1,_=>exact h1.2 hl.be
   | 2,_=>exact h2.2 ((paid_list hl.ev).1 hl.pd)
set_option maxRecDepth 100000 in
set_option maxHeartbeats 4000000 in
theorem least1_any (B1 B2:Nat) (x:MkA) (m:MkC) (ha pa:Option Addr) (hn hc pn pc:Nat) (has P:List Int) (w:World) (h:IsMk w (fun _=>True) x m) (hrm:m.r.length≤17592186044416) (hh:IsI w ha hn hc has) (hp:IsI w pa pn pc P)
   (h1:w.heap[B1]?=some (.cells x.cells.toArray 25 (0,0))) (h2:w.heap[B2]?=some (.cells #[.slice ha hn hc,.slice pa pn pc] 27 (0,0))) :
   Calls Tryz.prog 33 #[.pointer (some ⟨B1,0,none⟩),.pointer (some ⟨B2,0,none⟩)] w (EvnQ m has P w):=by
 have HE:=Lib.hid (even_any x m ha pa hn hc pn pc has P w h hrm hh hp)
 obtain ⟨ra,rn,rc,ba,bn,bc,bv,oa,on,oc⟩:=x
 unfold MkA.cells at h1 HE
 dsimp only at h1 HE
 have c0:w.cell? ⟨B1,0,none⟩=some (.slice ra rn rc):=by rw [cell_of_block h1];rfl
 have c1:w.cell? ⟨B1,1,none⟩=some (.slice ba bn bc):=by rw [cell_of_block h1];rfl
 have c2:w.cell? ⟨B1,2,none⟩=some (.slice oa on oc):=by rw [cell_of_block h1];rfl
 have c3:w.cell? ⟨B2,0,none⟩=some (.slice ha hn hc):=by rw [cell_of_block h2];rfl
 have c4:w.cell? ⟨B2,1,none⟩=some (.slice pa pn pc):=by rw [cell_of_block h2];rfl
 clear h hh hp h1 h2 hrm
 go_enter Tryz.func33,Tryz.ntmps33
 go_wp2_with fail
 refine HE.out.mono ?_
 rintro e w1 ⟨v,rfl,hv,hb⟩
 have HV:=Lib.hid hv
 have HB:=Lib.hid hb
 clear hv hb
 go_wp2_with fail
 go_ret
 exact ⟨v,rfl,HV.out,HB.out⟩
def GnQ (m:MkC) (w:World) (e:Ending) (W:World):Prop:=∃ ga n c z,e=.returned (.tuple #[.slice ga n c,.int .i64 z])∧Below w.heap.size w W∧(mktB m=true→∃ B,ga=some ⟨B,0,none⟩∧n=m.b.length∧c=m.b.length∧IsII W (some ⟨B,0,none⟩) m.b.length m.b.length (gnL m.r m.b)∧w.heap.size≤B)
theorem gainsQ_any (x:MkA) (m:MkC) (w:World) (h:IsMk w (fun _=>True) x m) (hrm:m.r.length≤17592186044416):Calls Tryz.prog 31 #[.agg x.cells.toArray] w (GnQ m w):=by
 cases hq:mktB m with
 | false=>exact (gains_not x m w h hrm hq).mono fun e W ⟨h1,h2⟩ => ⟨none,0,0,1,h1,h2,fun e=>by rw [hq] at e;cases e⟩
 | true=>exact (gains_any x m w ⟨h,hq⟩).mono fun e W ⟨B,h1,h2,h3,h4⟩ => ⟨_,_,_,_,h1,h2,fun _=>⟨B,rfl,rfl,rfl,h3,h4⟩⟩
theorem isII_set_ne {w:World} {a:Option Addr} {n c:Nat} {L:List (List Int)} {k i:Nat} {C:Array Value} {t:TypeId} (h:IsII w a n c L) (hx:w.heap[k]?=some (.cells C t (0,0))) (hC:∀ (i:Nat) (z:Int),C[i]?≠some (.int .i64 z)) (hne0:∀ b off,a=some ⟨b,off,none⟩→b≠k) (v:Value):IsII (w.setCell ⟨k,i,none⟩ v) a n c L:=by
 obtain ⟨h1,h2,h3,h4 | ⟨b,off,rfl,hlt,hc⟩⟩:=h
 · exact ⟨h1,h2,h3,.inl h4⟩
 · have hne:b≠k:=hne0 b off rfl
   refine ⟨h1,h2,h3,.inr ⟨b,off,rfl,by simpa using hlt,fun q hq => ?_⟩⟩
   obtain ⟨x,y,z,h5,h6⟩:=hc q hq
   exact ⟨x,y,z,by rw [World.cell?_setCell_other _ _ _ _ (by simp [hne])];exact h5,isI_set_ty h6 hx hC v⟩
set_option maxRecDepth 100000 in
set_option maxHeartbeats 8000000 in
theorem least_any (x:MkA) (m:MkC) (ha pa:Option Addr) (hn hc pn pc:Nat) (has P:List Int) (w:World) (h:IsMk w (fun _=>True) x m) (hrm:m.r.length≤17592186044416) (hh:IsI w ha hn hc has) (hp:IsI w pa pn pc P) :
   Calls Tryz.prog 14 #[.agg x.cells.toArray,.agg #[.slice ha hn hc,.slice pa pn pc]] w (LstQ m has P w):=by
 obtain ⟨ra,rn,rc,ba,bn,bc,bv,oa,on,oc⟩:=x
 have hr:=h.r.1
 have hbb:=h.b
 have ho:=h.o.1
 unfold MkA.cells
 dsimp only at hr hbb ho ⊢
 obtain rfl:=hr.1
 obtain rfl:=hbb.1
 obtain rfl:=ho.1
 obtain rfl:=hh.1
 obtain rfl:=hp.1
 obtain ⟨hb0,m0,m1⟩:=alloc2_facts w (.cells #[.slice ra m.r.length rc,.slice ba m.b.length bc,.slice oa m.o.length oc] 25 (0,0)) (.cells #[.slice ha has.length hc,.slice pa P.length pc] 27 (0,0))
 have HM:=Lib.hid h
 have HH:=Lib.hid hh
 have HP:=Lib.hid hp
 have HRM:=Lib.hid hrm
 clear h hr hbb ho hh hp hrm
 go_enter Tryz.func14,Tryz.ntmps14
 go_wp2_with fail
 have hs2:((w.alloc (.cells #[.slice ra m.r.length rc,.slice ba m.b.length bc,.slice oa m.o.length oc] 25 (0,0))).alloc (.cells #[.slice ha has.length hc,.slice pa P.length pc] 27 (0,0))).heap.size=w.heap.size+1+1:=by simp
 have hbC:Below ((w.alloc (.cells #[.slice ra m.r.length rc,.slice ba m.b.length bc,.slice oa m.o.length oc] 25 (0,0))).alloc (.cells #[.slice ha has.length hc,.slice pa P.length pc] 27 (0,0))).heap.size ((w.alloc (.cells #[.slice ra m.r.length rc,.slice ba m.b.length bc,.slice oa m.o.length oc] 25 (0,0))).alloc (.cells #[.slice ha has.length hc,.slice pa P.length pc] 27 (0,0))) (((w.alloc (.cells #[.slice ra m.r.length rc,.slice ba m.b.length bc,.slice oa m.o.length oc] 25 (0,0))).alloc (.cells #[.slice ha has.length hc,.slice pa P.length pc] 27 (0,0))).alloc (.cells #[.slice ra m.r.length rc,.slice ba m.b.length bc,.slice oa m.o.length oc,.slice ha has.length hc,.slice pa P.length pc,.slice none 0 0] 56 (0,0))):=(Below.refl _ _).alloc (Nat.le_refl _) _
 have m2:(((w.alloc (.cells #[.slice ra m.r.length rc,.slice ba m.b.length bc,.slice oa m.o.length oc] 25 (0,0))).alloc (.cells #[.slice ha has.length hc,.slice pa P.length pc] 27 (0,0))).alloc (.cells #[.slice ra m.r.length rc,.slice ba m.b.length bc,.slice oa m.o.length oc,.slice ha has.length hc,.slice pa P.length pc,.slice none 0 0] 56 (0,0))).heap[w.heap.size+1+1]?=some (.cells #[.slice ra m.r.length rc,.slice ba m.b.length bc,.slice oa m.o.length oc,.slice ha has.length hc,.slice pa P.length pc,.slice none 0 0] 56 (0,0)):=by
   have:=heap_new ((w.alloc (.cells #[.slice ra m.r.length rc,.slice ba m.b.length bc,.slice oa m.o.length oc] 25 (0,0))).alloc (.cells #[.slice ha has.length hc,.slice pa P.length pc] 27 (0,0))) (.cells #[.slice ra m.r.length rc,.slice ba m.b.length bc,.slice oa m.o.length oc,.slice ha has.length hc,.slice pa P.length pc,.slice none 0 0] 56 (0,0))
   rw [hs2] at this;exact this
 have m0':=below_heap hbC m0 (lt_of_heap m0)
 have m1':=below_heap hbC m1 (lt_of_heap m1)
 have hb1:=hb0.trans (hbC.mono hb0.size)
 clear hs2 hbC m0 m1 hb0
 generalize (((w.alloc (.cells #[.slice ra m.r.length rc,.slice ba m.b.length bc,.slice oa m.o.length oc] 25 (0,0))).alloc (.cells #[.slice ha has.length hc,.slice pa P.length pc] 27 (0,0))).alloc (.cells #[.slice ra m.r.length rc,.slice ba m.b.length bc,.slice oa m.o.length oc,.slice ha has.length hc,.slice pa P.length pc,.slice none 0 0] 56 (0,0)))=W at hb1 m0' m1' m2 ⊢
 have HB0:=Lib.hid hb1
 have M0:=Lib.hid m0'
 have M1:=Lib.hid m1'
 have M2:=Lib.hid m2
 obtain ⟨V,hV⟩:∃ V,w.heap.size+1+1=V:=⟨_,rfl⟩
 have HVW:Hid (w.heap.size+2=V):=Lib.hid (by omega)
 rw [hV] at M2 ⊢
 clear hV hb1 m0' m1' m2
 have HGN:Hid (Calls Tryz.prog 31 #[.agg #[.slice ra m.r.length rc,.slice ba m.b.length bc,.slice oa m.o.length oc]] W (GnQ m W)):=Lib.hid (gainsQ_any ⟨ra,m.r.length,rc,ba,m.b.length,bc,bv,oa,m.o.length,oc⟩ m W (HM.out.below HB0.out) HRM.out)
 refine HGN.out.mono ?_
 rintro e w1 ⟨ga,gn,gc,er,rfl,hb1,hg1⟩
 have HB1:=Lib.hid (HB0.out.trans (hb1.mono HB0.out.size))
 have n0:=below_heap hb1 M0.out (lt_of_heap M0.out)
 have n1:=below_heap hb1 M1.out (lt_of_heap M1.out)
 have n2:=below_heap hb1 M2.out (lt_of_heap M2.out)
 have c5:w1.cell? ⟨V,5,none⟩=some (.slice none 0 0):=by rw [cell_of_block n2];rfl
 have z5:w1.frozen? ⟨V,5,none⟩=false:=blk_free n2
 have g2:(w1.setCell ⟨V,5,none⟩ (.slice ga gn gc)).heap[V]?=some (.cells #[.slice ra m.r.length rc,.slice ba m.b.length bc,.slice oa m.o.length oc,.slice ha has.length hc,.slice pa P.length pc,.slice ga gn gc] 56 (0,0)):=by
   rw [heap_setCell_same w1 V 5 _ _ _ n2];rfl
 have g0:(w1.setCell ⟨V,5,none⟩ (.slice ga gn gc)).heap[w.heap.size]?=some (.cells #[.slice ra m.r.length rc,.slice ba m.b.length bc,.slice oa m.o.length oc] 25 (0,0)):=(Below.heap_setCell w1 ⟨V,5,none⟩ _ w.heap.size (by show w.heap.size≠V;have:=HVW.out;omega)).trans n0
 have g1:(w1.setCell ⟨V,5,none⟩ (.slice ga gn gc)).heap[w.heap.size+1]?=some (.cells #[.slice ha has.length hc,.slice pa P.length pc] 27 (0,0)):=(Below.heap_setCell w1 ⟨V,5,none⟩ _ (w.heap.size+1) (by show w.heap.size+1≠V;have:=HVW.out;omega)).trans n1
 have hb2:Below w.heap.size w (w1.setCell ⟨V,5,none⟩ (.slice ga gn gc)):=HB1.out.setCell (p:=⟨V,5,none⟩) (by show w.heap.size≤V;have:=HVW.out;omega) _
 have hg2:mktB m=true→∃ B,ga=some ⟨B,0,none⟩∧gn=m.b.length∧gc=m.b.length∧IsII (w1.setCell ⟨V,5,none⟩ (.slice ga gn gc)) (some ⟨B,0,none⟩) m.b.length m.b.length (gnL m.r m.b):=fun e=>by
   obtain ⟨B,rfl,rfl,rfl,h4,h5⟩:=hg1 e
   refine ⟨B,rfl,rfl,rfl,isII_set_ne h4 n2 (fun i z e2 => ?_) (fun b off e3=>by cases e3;have:=lt_of_heap M2.out;omega) _⟩
   rw [List.getElem?_toArray] at e2
   have:=List.mem_of_getElem? e2
   simp at this
 clear hb1 hg1 n0 n1 n2
 go_wp2_with fail
 have hsz:(w1.setCell ⟨V,5,none⟩ (.slice ga gn gc)).heap.size=w1.heap.size:=by simp
 have hbF:Below (w1.setCell ⟨V,5,none⟩ (.slice ga gn gc)).heap.size (w1.setCell ⟨V,5,none⟩ (.slice ga gn gc)) ((w1.setCell ⟨V,5,none⟩ (.slice ga gn gc)).alloc (.cells #[.func (.func 33) #[] #[.pointer (some ⟨w.heap.size,0,none⟩),.pointer (some ⟨w.heap.size+1,0,none⟩)],.func (.func 35) #[.pointer (some ⟨V,0,none⟩)] #[],.func (.func 36) #[.pointer (some ⟨V,0,none⟩)] #[]] 31 (0,0))):=(Below.refl _ _).alloc (Nat.le_refl _) _
 have hvF:((w1.setCell ⟨V,5,none⟩ (.slice ga gn gc)).alloc (.cells #[.func (.func 33) #[] #[.pointer (some ⟨w.heap.size,0,none⟩),.pointer (some ⟨w.heap.size+1,0,none⟩)],.func (.func 35) #[.pointer (some ⟨V,0,none⟩)] #[],.func (.func 36) #[.pointer (some ⟨V,0,none⟩)] #[]] 31 (0,0))).heap[w1.heap.size]?=some (.cells #[.func (.func 33) #[] #[.pointer (some ⟨w.heap.size,0,none⟩),.pointer (some ⟨w.heap.size+1,0,none⟩)],.func (.func 35) #[.pointer (some ⟨V,0,none⟩)] #[],.func (.func 36) #[.pointer (some ⟨V,0,none⟩)] #[]] 31 (0,0)):=by
   have:=heap_new (w1.setCell ⟨V,5,none⟩ (.slice ga gn gc)) (.cells #[.func (.func 33) #[] #[.pointer (some ⟨w.heap.size,0,none⟩),.pointer (some ⟨w.heap.size+1,0,none⟩)],.func (.func 35) #[.pointer (some ⟨V,0,none⟩)] #[],.func (.func 36) #[.pointer (some ⟨V,0,none⟩)] #[]] 31 (0,0))
   rw [hsz] at this;exact this
 have hg3:mktB m=true→∃ B,ga=some ⟨B,0,none⟩∧gn=m.b.length∧gc=m.b.length∧IsII ((w1.setCell ⟨V,5,none⟩ (.slice ga gn gc)).alloc (.cells #[.func (.func 33) #[] #[.pointer (some ⟨w.heap.size,0,none⟩),.pointer (some ⟨w.heap.size+1,0,none⟩)],.func (.func 35) #[.pointer (some ⟨V,0,none⟩)] #[],.func (.func 36) #[.pointer (some ⟨V,0,none⟩)] #[]] 31 (0,0))) (some ⟨B,0,none⟩) m.b.length m.b.length (gnL m.r m.b):=fun e=>by
   obtain ⟨B,h1,h2,h3,h4⟩:=hg2 e
   exact ⟨B,h1,h2,h3,h4.below hbF⟩
 have HB3:=Lib.hid (hb2.trans (hbF.mono hb2.size))
 have G0:=Lib.hid (below_heap hbF g0 (lt_of_heap g0))
 have G1:=Lib.hid (below_heap hbF g1 (lt_of_heap g1))
 have G2:=Lib.hid (below_heap hbF g2 (lt_of_heap g2))
 have HVF:=Lib.hid hvF
 have HG3:=Lib.hid hg3
 clear hsz hbF hvF hg2 hg3 hb2 g0 g1 g2 c5 z5
 generalize (w1.setCell ⟨V,5,none⟩ (.slice ga gn gc)).alloc (.cells #[.func (.func 33) #[] #[.pointer (some ⟨w.heap.size,0,none⟩),.pointer (some ⟨w.heap.size+1,0,none⟩)],.func (.func 35) #[.pointer (some ⟨V,0,none⟩)] #[],.func (.func 36) #[.pointer (some ⟨V,0,none⟩)] #[]] 31 (0,0))=w3 at HB3 G0 G1 G2 HVF HG3 ⊢
 obtain ⟨fb,hfb⟩:∃ fb,w1.heap.size=fb:=⟨_,rfl⟩
 rw [hfb] at HVF ⊢
 clear hfb
 have HALL:=Lib.hid (all_gen fb [.func (.func 33) #[] #[.pointer (some ⟨w.heap.size,0,none⟩),.pointer (some ⟨w.heap.size+1,0,none⟩)],.func (.func 35) #[.pointer (some ⟨V,0,none⟩)] #[],.func (.func 36) #[.pointer (some ⟨V,0,none⟩)] #[]] (lsP m has P) w3 (lt_of_heap HVF.out) (fun i hi=>by
     rw [cell_of_block HVF.out]
     match i,hi with
     | 0,_=>rfl
     | 1,_=>rfl
     | 2,_=>rfl) (by simp) (fun i hi hpre W hW=>by
     have hbW:=HB3.out.trans (hW.mono HB3.out.size)
     match i,hi with
     | 0,_ =>
       exact all1_any 33 #[] #[.pointer (some ⟨w.heap.size,0,none⟩),.pointer (some ⟨w.heap.size+1,0,none⟩)] (lsP m has P 0) W (fun W' => (enters_of Tryz.func33 (by kernel_rfl) rfl) _ _) ((least1_any w.heap.size (w.heap.size+1) ⟨ra,m.r.length,rc,ba,m.b.length,bc,bv,oa,m.o.length,oc⟩ m ha pa has.length hc P.length pc has P W (HM.out.below hbW) HRM.out (HH.out.below hbW) (HP.out.below hbW) (below_heap hW G0.out (lt_of_heap G0.out)) (below_heap hW G1.out (lt_of_heap G1.out))).mono fun e W' ⟨v,h1,h2,h3⟩ => ⟨by
         rw [h1]
         have:v=lsP m has P 0:=by
           rw [Bool.eq_iff_iff,h2];simp [lsP]
         rw [this],h3⟩)
     | 1,_ =>
       have h0:mktB m=true∧JM.EvenP m.r m.b has P:=by have:=hpre 0 (by decide);simpa [lsP] using this
       obtain ⟨B,rfl,rfl,rfl,h4⟩:=HG3.out h0.1
       exact all1_any 35 #[.pointer (some ⟨V,0,none⟩)] #[] (lsP m has P 1) W (fun W' => (enters_of Tryz.func35 (by kernel_rfl) rfl) _ _) ((vmost_any V ⟨ra,m.r.length,rc,ba,m.b.length,bc,bv,oa,m.o.length,oc⟩ m ha hc has pa pc P B W ⟨below_heap hW G2.out (lt_of_heap G2.out),⟨HM.out.below hbW,h0.1⟩,HH.out.below hbW,HP.out.below hbW,h4.below hW⟩ (HasOk.of h0.2)).mono fun e W' ⟨h1,h2⟩ => ⟨h1,h2⟩)
     | 2,_ =>
       have h0:mktB m=true∧JM.EvenP m.r m.b has P:=by have:=hpre 0 (by decide);simpa [lsP] using this
       obtain ⟨B,rfl,rfl,rfl,h4⟩:=HG3.out h0.1
       exact all1_any 36 #[.pointer (some ⟨V,0,none⟩)] #[] (lsP m has P 2) W (fun W' => (enters_of Tryz.func36 (by kernel_rfl) rfl) _ _) ((paid_any V ⟨ra,m.r.length,rc,ba,m.b.length,bc,bv,oa,m.o.length,oc⟩ m ha hc has pa pc P B W ⟨below_heap hW G2.out (lt_of_heap G2.out),⟨HM.out.below hbW,h0.1⟩,HH.out.below hbW,HP.out.below hbW,h4.below hW⟩ (HasOk.of h0.2)).mono fun e W' ⟨h1,h2⟩ => ⟨by rw [h1];simp [lsP],h2⟩)))
 refine HALL.out.mono ?_
 rintro e w4 ⟨rfl,hb4⟩
 have HB4:=Lib.hid (HB3.out.trans (hb4.mono HB3.out.size))
 have HV:Hid ((lsP m has P 0 && (lsP m has P 1 && lsP m has P 2))=true↔mktB m=true∧LeastC m.r m.b has P):=Lib.hid (by
   have e:(List.range 3).all (lsP m has P)=(lsP m has P 0 && (lsP m has P 1 && lsP m has P 2)):=by
     show (_ && (_ && (_ && true)))=_
     rw [Bool.and_true]
   rw [← e];exact lsP_all m has P)
 clear hb4 HALL
 go_wp2_with fail
 go_ret
 exact ⟨_,rfl,HV.out,HB4.out⟩
end
section
open Go.RowKit Go.Shelf
set_option linter.unusedVariables false
set_option linter.unusedSimpArgs false
attribute [local go_sem] Oper.semAt_some
def lvM:MkC:=⟨[2],[[9],[5]],[0,1]⟩
theorem lvM_ok:mktB lvM=true:=by decide
theorem lv_best:bestV 2 1 (fun x y=>if x=0 then -1 else JM.gn [2] [[9],[5]] x y)=3:=by
 rw [← bestV_of (best_mx (n:=2) (K:=1) (by decide))]
 decide +kernel
theorem lv_not:¬ LeastC [2] [[9],[5]] [0,-1] [9]:=fun h=>by
 have h0:JM.mo [0,-1] 0=some 0:=by decide
 have h1:=h.pd.sold 0 0 (by decide) h0 _ (bestV_is _ _ _)
 have h2:sumV [2] [[9],[5]] [0,-1]=7:=by decide
 have h3:JM.gn [2] [[9],[5]] 0 0=7:=by decide
 rw [h2,h3] at h1
 have h4:bestV ([[9],[5]]:List (List Int)).length ([2]:List Int).length (fun x y=>if x=0 then -1 else JM.gn [2] [[9],[5]] x y)=3:=lv_best
 rw [h4] at h1
 simp at h1
theorem lv_t1:TruC lvM 0 [1]:=by unfold TruC;decide +kernel
theorem lv_t2:TruC lvM 1 [20]:=by unfold TruC;decide +kernel
theorem lv_t3:¬ TruC lvM 2 []:=by unfold TruC;decide +kernel
theorem alloc6_facts (w:World) (o0 o1 o2 o3 o4 o5:Obj):Below w.heap.size w ((((((w.alloc o0).alloc o1).alloc o2).alloc o3).alloc o4).alloc o5)∧((((((w.alloc o0).alloc o1).alloc o2).alloc o3).alloc o4).alloc o5).heap[w.heap.size]?=some o0∧((((((w.alloc o0).alloc o1).alloc o2).alloc o3).alloc o4).alloc o5).heap[w.heap.size+1]?=some o1∧((((((w.alloc o0).alloc o1).alloc o2).alloc o3).alloc o4).alloc o5).heap[w.heap.size+1+1]?=some o2∧((((((w.alloc o0).alloc o1).alloc o2).alloc o3).alloc o4).alloc o5).heap[w.heap.size+1+1+1]?=some o3∧((((((w.alloc o0).alloc o1).alloc o2).alloc o3).alloc o4).alloc o5).heap[w.heap.size+1+1+1+1]?=some o4∧((((((w.alloc o0).alloc o1).alloc o2).alloc o3).alloc o4).alloc o5).heap[w.heap.size+1+1+1+1+1]?=some o5:=by
 obtain ⟨a0,a1,a2⟩:=alloc2_facts w o0 o1
 obtain ⟨b0,b1,b2⟩:=alloc2_facts ((w.alloc o0).alloc o1) o2 o3
 obtain ⟨c0,c1,c2⟩:=alloc2_facts ((((w.alloc o0).alloc o1).alloc o2).alloc o3) o4 o5
 have s1:((w.alloc o0).alloc o1).heap.size=w.heap.size+1+1:=by simp
 have s2:((((w.alloc o0).alloc o1).alloc o2).alloc o3).heap.size=w.heap.size+1+1+1+1:=by simp
 rw [s1] at b1 b2
 rw [s2] at c1 c2
 exact ⟨a0.trans ((b0.mono a0.size).trans (c0.mono (Nat.le_trans a0.size b0.size))),below_heap c0 (below_heap b0 a1 (lt_of_heap a1)) (lt_of_heap (below_heap b0 a1 (lt_of_heap a1))),below_heap c0 (below_heap b0 a2 (lt_of_heap a2)) (lt_of_heap (below_heap b0 a2 (lt_of_heap a2))),below_heap c0 b1 (lt_of_heap b1),below_heap c0 b2 (lt_of_heap b2),c1,c2⟩
theorem isI_blk {w:World} {b:Nat} {l:List Int} {t:TypeId} {fz:Nat × Nat} (h:w.heap[b]?=some (.cells (icells l).toArray t fz)) (hm:l.length≤maxLen):IsI w (some ⟨b,0,none⟩) l.length l.length l:=by
 refine ⟨rfl,Nat.le_refl _,hm,.inr ⟨b,0,rfl,lt_of_heap h,fun i hi => ?_⟩⟩
 rw [cell_of_block h,Nat.zero_add,List.getElem?_toArray]
 simp [icells,hi]
theorem lv_mkt {w:World} {n:Nat} {f0 f1 f2 f3 f4:Nat × Nat} (h0:w.heap[n]?=some (.cells #[.int .i64 2] 3 f0)) (h1:w.heap[n+1]?=some (.cells #[.int .i64 9] 3 f1)) (h2:w.heap[n+1+1]?=some (.cells #[.int .i64 5] 3 f2)) (h3:w.heap[n+1+1+1]?=some (.cells #[.slice (some ⟨n+1,0,none⟩) 1 1,.slice (some ⟨n+1+1,0,none⟩) 1 1] 22 f3)) (h4:w.heap[n+1+1+1+1]?=some (.cells #[.int .i64 0,.int .i64 1] 3 f4)) :
   MkT w ⟨some ⟨n,0,none⟩,1,1,some ⟨n+1+1+1,0,none⟩,2,2,[.slice (some ⟨n+1,0,none⟩) 1 1,.slice (some ⟨n+1+1,0,none⟩) 1 1],some ⟨n+1+1+1+1,0,none⟩,2,2⟩ lvM:=by
 have i0:IsI w (some ⟨n,0,none⟩) 1 1 [2]:=isI_blk (l:=[2]) h0 (by decide)
 have i1:IsI w (some ⟨n+1,0,none⟩) 1 1 [9]:=isI_blk (l:=[9]) h1 (by decide)
 have i2:IsI w (some ⟨n+1+1,0,none⟩) 1 1 [5]:=isI_blk (l:=[5]) h2 (by decide)
 have i4:IsI w (some ⟨n+1+1+1+1,0,none⟩) 2 2 [0,1]:=isI_blk (l:=[0,1]) h4 (by decide)
 refine ⟨⟨⟨i0,fun _ _ _ _=>trivial⟩,⟨rfl,Nat.le_refl _,(by decide:(2:Nat)≤maxLen),⟨rfl,fun i hi => ?_⟩,.inr ⟨_,0,rfl,trivial,lt_of_heap h3,fun i hi => ?_⟩⟩,⟨i4,fun _ _ _ _=>trivial⟩⟩,lvM_ok⟩
 · match i,hi with
   | 0,_=>exact ⟨_,_,_,rfl,i1,fun _ _ _ _=>trivial⟩
   | 1,_=>exact ⟨_,_,_,rfl,i2,fun _ _ _ _=>trivial⟩
 · rw [cell_of_block h3,Nat.zero_add]
   match i,hi with
   | 0,_=>rfl
   | 1,_=>rfl
theorem fine_nil (w:World):Calls Tryz.prog 24 #[.pointer none] w fun e w' => e=.returned (.bool false)∧Below w.heap.size w w':=by
 go_enter Tryz.func24,Tryz.ntmps24
 go_wp2_with fail
 go_ret
 exact ⟨rfl,Below.refl _ _⟩
set_option maxRecDepth 100000 in
set_option maxHeartbeats 8000000 in
theorem lives_any (w:World) :
   Calls Tryz.prog 8 #[] w fun e w' => e=.returned (.bool true)∧Below w.heap.size w w':=by
 obtain ⟨hb,h0,h1,h2,h3,h4,h5⟩:=alloc6_facts w (.cells #[.int .i64 2] 3 (0,0)) (.cells #[.int .i64 9] 3 (0,0)) (.cells #[.int .i64 5] 3 (0,0)) (.cells #[.slice (some ⟨w.heap.size+1,0,none⟩) 1 1,.slice (some ⟨w.heap.size+1+1,0,none⟩) 1 1] 22 (0,0)) (.cells #[.int .i64 0,.int .i64 1] 3 (0,0)) (.cells #[.slice (some ⟨w.heap.size,0,none⟩) 1 1,.slice (some ⟨w.heap.size+1+1+1,0,none⟩) 2 2,.slice (some ⟨w.heap.size+1+1+1+1,0,none⟩) 2 2] 25 (0,0))
 go_enter Tryz.func8,Tryz.ntmps8
 go_wp2_with fail
 generalize ((((((w.alloc (.cells #[.int .i64 2] 3 (0,0))).alloc (.cells #[.int .i64 9] 3 (0,0))).alloc (.cells #[.int .i64 5] 3 (0,0))).alloc (.cells #[.slice (some ⟨w.heap.size+1,0,none⟩) 1 1,.slice (some ⟨w.heap.size+1+1,0,none⟩) 1 1] 22 (0,0))).alloc (.cells #[.int .i64 0,.int .i64 1] 3 (0,0))).alloc (.cells #[.slice (some ⟨w.heap.size,0,none⟩) 1 1,.slice (some ⟨w.heap.size+1+1+1,0,none⟩) 2 2,.slice (some ⟨w.heap.size+1+1+1+1,0,none⟩) 2 2] 25 (0,0)))=W at hb h0 h1 h2 h3 h4 h5 ⊢
 have HMT:=Lib.hid (lv_mkt h0 h1 h2 h3 h4)
 have HB0:=Lib.hid hb
 have HC:Hid (∀ W',Below W.heap.size W W'→W'.cell? ⟨w.heap.size+1+1+1+1+1,0,none⟩=some (.slice (some ⟨w.heap.size,0,none⟩) 1 1)∧W'.cell? ⟨w.heap.size+1+1+1+1+1,1,none⟩=some (.slice (some ⟨w.heap.size+1+1+1,0,none⟩) 2 2)∧W'.cell? ⟨w.heap.size+1+1+1+1+1,2,none⟩=some (.slice (some ⟨w.heap.size+1+1+1+1,0,none⟩) 2 2)):=Lib.hid (fun W' hW=>by
   have:=below_heap hW h5 (lt_of_heap h5)
   refine ⟨?_,?_,?_⟩ <;> (rw [cell_of_block this];rfl))
 clear hb h0 h1 h2 h3 h4 h5
 refine (outOf_any ⟨some ⟨w.heap.size,0,none⟩,1,1,some ⟨w.heap.size+1+1+1,0,none⟩,2,2,[.slice (some ⟨w.heap.size+1,0,none⟩) 1 1,.slice (some ⟨w.heap.size+1+1,0,none⟩) 1 1],some ⟨w.heap.size+1+1+1+1,0,none⟩,2,2⟩ lvM W HMT.out).mono ?_
 rintro e w1 ⟨ha,hc,pa,pc,has,P,rfl,hb1,hh1,hp1,hok⟩
 have hl1:lvM.b.length=2:=rfl
 have hl2:lvM.r.length=1:=rfl
 rw [hl1] at hh1 ⊢
 rw [hl2] at hp1 ⊢
 clear hl1 hl2
 have hbA:Below w1.heap.size w1 (w1.alloc (.cells #[.slice ha 2 hc,.slice pa 1 pc] 27 (0,0))):=(Below.refl _ _).alloc (Nat.le_refl _) _
 obtain ⟨k0,k1,k2⟩:=HC.out _ (hb1.trans (hbA.mono hb1.size))
 obtain ⟨hbB,hvA,hvB⟩:=alloc2_facts w1 (.cells #[.slice ha 2 hc,.slice pa 1 pc] 27 (0,0)) (.cells #[.int .i64 1] 3 (0,0))
 have HB2:Hid (Below W.heap.size W ((w1.alloc (.cells #[.slice ha 2 hc,.slice pa 1 pc] 27 (0,0))).alloc (.cells #[.int .i64 1] 3 (0,0)))):=Lib.hid (hb1.trans (hbB.mono hb1.size))
 have HH2:=Lib.hid (hh1.below hbB)
 have HP2:=Lib.hid (hp1.below hbB)
 have HOK:=Lib.hid hok
 have HIB:Hid (IsI ((w1.alloc (.cells #[.slice ha 2 hc,.slice pa 1 pc] 27 (0,0))).alloc (.cells #[.int .i64 1] 3 (0,0))) (some ⟨w1.heap.size+1,0,none⟩) 1 1 [1]):=Lib.hid (isI_blk (l:=[1]) hvB (by decide))
 have HOC:Hid (∀ W',Below ((w1.alloc (.cells #[.slice ha 2 hc,.slice pa 1 pc] 27 (0,0))).alloc (.cells #[.int .i64 1] 3 (0,0))).heap.size ((w1.alloc (.cells #[.slice ha 2 hc,.slice pa 1 pc] 27 (0,0))).alloc (.cells #[.int .i64 1] 3 (0,0))) W'→W'.cell? ⟨w1.heap.size,0,none⟩=some (.slice ha 2 hc)∧W'.cell? ⟨w1.heap.size,1,none⟩=some (.slice pa 1 pc)):=Lib.hid (fun W' hW=>by
   have:=below_heap hW hvA (lt_of_heap hvA)
   refine ⟨?_,?_⟩ <;> (rw [cell_of_block this];rfl))
 clear hb1 hh1 hp1 hok hbA hbB hvA hvB
 go_wp2_with fail
 clear k0 k1 k2
 generalize ((w1.alloc (.cells #[.slice ha 2 hc,.slice pa 1 pc] 27 (0,0))).alloc (.cells #[.int .i64 1] 3 (0,0)))=w2 at HB2 HH2 HP2 HIB HOC ⊢
 obtain ⟨ob,hob⟩:∃ ob,w1.heap.size=ob:=⟨_,rfl⟩
 rw [hob] at HIB HOC ⊢
 clear hob
 refine (true_any ⟨some ⟨w.heap.size,0,none⟩,1,1,some ⟨w.heap.size+1+1+1,0,none⟩,2,2,[.slice (some ⟨w.heap.size+1,0,none⟩) 1 1,.slice (some ⟨w.heap.size+1+1,0,none⟩) 1 1],some ⟨w.heap.size+1+1+1+1,0,none⟩,2,2⟩ lvM 0 (some ⟨ob+1,0,none⟩) 1 1 [1] w2 (HMT.out.below HB2.out).v (by decide) (by decide) HIB.out).mono ?_
 rintro e w3 ⟨v,rfl,hv,hb3⟩
 have hvt:v=true:=hv.2 lv_t1
 subst hvt
 have HB3:Hid (Below w2.heap.size w2 w3):=Lib.hid hb3
 obtain ⟨l0,l1,l2⟩:=HC.out _ (HB2.out.trans (HB3.out.mono HB2.out.size))
 clear hv hb3
 go_wp2_with fail
 have hbB:Below w3.heap.size w3 (w3.alloc (.cells #[.int .i64 20] 3 (0,0))):=(Below.refl _ _).alloc (Nat.le_refl _) _
 have hvB:=heap_new w3 (.cells #[.int .i64 20] 3 (0,0))
 have hiB:IsI (w3.alloc (.cells #[.int .i64 20] 3 (0,0))) (some ⟨w3.heap.size,0,none⟩) 1 1 [20]:=isI_blk (l:=[20]) hvB (by decide)
 refine (true_any ⟨some ⟨w.heap.size,0,none⟩,1,1,some ⟨w.heap.size+1+1+1,0,none⟩,2,2,[.slice (some ⟨w.heap.size+1,0,none⟩) 1 1,.slice (some ⟨w.heap.size+1+1,0,none⟩) 1 1],some ⟨w.heap.size+1+1+1+1,0,none⟩,2,2⟩ lvM 1 (some ⟨w3.heap.size,0,none⟩) 1 1 [20] _ (HMT.out.below (HB2.out.trans ((HB3.out.trans (hbB.mono HB3.out.size)).mono HB2.out.size))).v (by decide) (by decide) hiB).mono ?_
 rintro e w4 ⟨v,rfl,hv,hb4⟩
 have hvt:v=true:=hv.2 lv_t2
 subst hvt
 have HB4:Hid (Below w2.heap.size w2 w4):=Lib.hid (HB3.out.trans ((hbB.trans (hb4.mono hbB.size)).mono HB3.out.size))
 obtain ⟨k0,k1,k2⟩:=HC.out _ (HB2.out.trans (HB4.out.mono HB2.out.size))
 clear hbB hvB hiB hv hb4 l0 l1 l2
 go_wp2_with fail
 refine (true_any ⟨some ⟨w.heap.size,0,none⟩,1,1,some ⟨w.heap.size+1+1+1,0,none⟩,2,2,[.slice (some ⟨w.heap.size+1,0,none⟩) 1 1,.slice (some ⟨w.heap.size+1+1,0,none⟩) 1 1],some ⟨w.heap.size+1+1+1+1,0,none⟩,2,2⟩ lvM 2 none 0 0 [] w4 (HMT.out.below (HB2.out.trans (HB4.out.mono HB2.out.size))).v (by decide) (by decide) (IsI.nil _)).mono ?_
 rintro e w5 ⟨v,rfl,hv,hb5⟩
 have hvf:v=false:=by
   cases v with
   | false=>rfl
   | true=>exact absurd (hv.1 rfl) lv_t3
 subst hvf
 have HB5:Hid (Below w2.heap.size w2 w5):=Lib.hid (HB4.out.trans (hb5.mono HB4.out.size))
 obtain ⟨l0,l1,l2⟩:=HC.out _ (HB2.out.trans (HB5.out.mono HB2.out.size))
 obtain ⟨o0,o1⟩:=HOC.out _ HB5.out
 clear hv hb5 k0 k1 k2
 go_wp2_with fail
 refine (fine_nil w5).mono ?_
 rintro e w6 ⟨rfl,hb6⟩
 have HB6:Hid (Below w2.heap.size w2 w6):=Lib.hid (HB5.out.trans (hb6.mono HB5.out.size))
 obtain ⟨k0,k1,k2⟩:=HC.out _ (HB2.out.trans (HB6.out.mono HB2.out.size))
 obtain ⟨q0,q1⟩:=HOC.out _ HB6.out
 clear hb6 l0 l1 l2 o0 o1
 go_wp2_with fail
 refine (least_any ⟨some ⟨w.heap.size,0,none⟩,1,1,some ⟨w.heap.size+1+1+1,0,none⟩,2,2,[.slice (some ⟨w.heap.size+1,0,none⟩) 1 1,.slice (some ⟨w.heap.size+1+1,0,none⟩) 1 1],some ⟨w.heap.size+1+1+1+1,0,none⟩,2,2⟩ lvM ha pa 2 hc 1 pc has P w6 (HMT.out.below (HB2.out.trans (HB6.out.mono HB2.out.size))).v (by decide) (HH2.out.below HB6.out) (HP2.out.below HB6.out)).mono ?_
 rintro e w7 ⟨v,rfl,hv,hb7⟩
 have hvt:v=true:=hv.2 ⟨lvM_ok,HOK.out.leastC⟩
 subst hvt
 have HB7:Hid (Below w2.heap.size w2 w7):=Lib.hid (HB6.out.trans (hb7.mono HB6.out.size))
 obtain ⟨l0,l1,l2⟩:=HC.out _ (HB2.out.trans (HB7.out.mono HB2.out.size))
 clear hv hb7 k0 k1 k2 q0 q1
 go_wp2_with fail
 obtain ⟨hbC,c0,c1⟩:=alloc2_facts w7 (.cells #[.int .i64 0,.int .i64 (-1)] 3 (0,0)) (.cells #[.int .i64 9] 3 (0,0))
 have hi0:IsI ((w7.alloc (.cells #[.int .i64 0,.int .i64 (-1)] 3 (0,0))).alloc (.cells #[.int .i64 9] 3 (0,0))) (some ⟨w7.heap.size,0,none⟩) 2 2 [0,-1]:=isI_blk (l:=[0,-1]) c0 (by decide)
 have hi1:IsI ((w7.alloc (.cells #[.int .i64 0,.int .i64 (-1)] 3 (0,0))).alloc (.cells #[.int .i64 9] 3 (0,0))) (some ⟨w7.heap.size+1,0,none⟩) 1 1 [9]:=isI_blk (l:=[9]) c1 (by decide)
 refine (least_any ⟨some ⟨w.heap.size,0,none⟩,1,1,some ⟨w.heap.size+1+1+1,0,none⟩,2,2,[.slice (some ⟨w.heap.size+1,0,none⟩) 1 1,.slice (some ⟨w.heap.size+1+1,0,none⟩) 1 1],some ⟨w.heap.size+1+1+1+1,0,none⟩,2,2⟩ lvM (some ⟨w7.heap.size,0,none⟩) (some ⟨w7.heap.size+1,0,none⟩) 2 2 1 1 [0,-1] [9] _ (HMT.out.below (HB2.out.trans ((HB7.out.trans (hbC.mono HB7.out.size)).mono HB2.out.size))).v (by decide) hi0 hi1).mono ?_
 rintro e w8 ⟨v,rfl,hv,hb8⟩
 have hvf:v=false:=by
   cases v with
   | false=>rfl
   | true=>exact absurd (hv.1 rfl).2 lv_not
 subst hvf
 have HB8:Hid (Below w.heap.size w w8):=Lib.hid (HB0.out.trans ((HB2.out.trans ((HB7.out.trans ((hbC.trans (hb8.mono hbC.size)).mono HB7.out.size)).mono HB2.out.size)).mono HB0.out.size))
 clear hv hb8 l0 l1 l2 hbC c0 c1 hi0 hi1
 go_wp2_with fail
 go_ret
 exact ⟨rfl,HB8.out⟩
end
end Go.Proofs.YtmmmjohoihpbeaaGreat
