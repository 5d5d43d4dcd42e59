/- The package stores: record;conditions: those typed. -/
import Derived.Test.YtgbikngicidbkaaGreatDoorQGStCGStCloStArg2
import Derived.Test.YtgbikngicidbkaaGreatDoorQGStOrd
namespace Go.Proofs.YtgbikngicidbkaaGreatDoor
open Go.RowKit
set_option linter.unusedVariables false
set_option linter.unusedSimpArgs false
theorem wpList_load_want2 {P:Program} {ops:Array Oper} {rest:List Oper} {op:Oper} {a:Act} {w:World} {Q:Exit→Act→World→Prop} (hw:Region.wanted op (yielded ops a.tmps)=true) (ty:TypeId) (x:Operand) (ho:op.op=.load ty x)
   (b o:Nat) (hx:a.eval x=.pointer (some ⟨b,o,none⟩)) (cs:List Value) (d:TypeDesc) (hc:w.rangeAt b o cs)
   (hu:P.underlying ty=some d) (hd:d.isRow=true) (hi:(P.info? ty).map (·.size)=some cs.length)
   (h:wpList P ops Q rest (a.put op.dst (.agg cs.toArray)) w):wpList P ops Q (op :: rest) a w :=
 wpList_step fun K hK=>by
   simp only [hw,if_true]
   exact wp_load_mid ty x ho b o hx cs d hc hu hd hi (hK _ _ h)
theorem decR_k (b:List UInt8):decR b=match decN 4 b with
   | none=>none
   | some (s,b1)=>match decN 1 b1 with
     | none=>none
     | some (h,b2)=>match decL b2 with
       | none=>none
       | some (l,b3)=>if b3=[] then some (s,h,l) else none:=rfl
theorem alloc4_facts (w:World) (o1 o2 o3 o4:Obj):Below w.heap.size w ((((w.alloc o1).alloc o2).alloc o3).alloc o4)∧((((w.alloc o1).alloc o2).alloc o3).alloc o4).heap[w.heap.size]?=some o1∧((((w.alloc o1).alloc o2).alloc o3).alloc o4).heap[w.heap.size+1]?=some o2∧((((w.alloc o1).alloc o2).alloc o3).alloc o4).heap[w.heap.size+1+1]?=some o3∧((((w.alloc o1).alloc o2).alloc o3).alloc o4).heap[w.heap.size+1+1+1]?=some o4:=by
 obtain ⟨h1,h2,h3,h4⟩:=alloc3_facts w o1 o2 o3
 have hb:Below (w.heap.size+3) (((w.alloc o1).alloc o2).alloc o3) ((((w.alloc o1).alloc o2).alloc o3).alloc o4):=(Below.refl _ _).alloc (by simp) _
 refine ⟨h1.alloc (by simp;omega) _,below_heap hb h2 (by omega),below_heap hb h3 (by omega),below_heap hb h4 (by omega),?_⟩
 have:=heap_new (((w.alloc o1).alloc o2).alloc o3) o4
 rwa [World.size_alloc,World.size_alloc,World.size_alloc] at this
theorem info_rec:(Tryz.prog.info? 60).map (·.size)=some 3:=by kernel_rfl
theorem rec_one (s:Int) (b:Bool) (a:Option Addr) (n c:Nat):∀ v ∈ [Value.int .u32 s,.bool b,.slice a n c],v.oneCell'=true:=by intro v hv;simp at hv;rcases hv with rfl | rfl | rfl <;> rfl
theorem strecord_at (k P0:Nat) (hP:P0=12*(2+k)) (hk:k≤100000) (w:World):Calls Tryz.prog 85 #[.int .i64 k] w fun e w' => e=.returned (.int .i64 P0)∧w=w':=by
 subst hP;exact strecord_any k hk w
def RcJ (P:Nat→Prop) (b0:List UInt8) (n0 bh br:Nat) (wA:World) (B:Nat) (i:Nat) (b:List UInt8) (bad:Bool) (W:World):Prop :=
 Touch (fun k=>k=n0∨k=bh∨k=br) wA W∧IsRd P W br b bad∧∃ (sq hw:Nat) (v:Value),W.heap[n0]?=some (.cells #[.int .u32 sq,.bool false,v] 60 (0,0))∧W.heap[bh]?=some (.cells #[.int .u64 hw] 25 (0,0))∧sq<4294967296∧hw<256∧(∃ a n c,v=.slice a n c) ∧
   (bad=true→decR b0=none)∧(bad=false→(i=0→b=b0)∧(i=1→decN 4 b0=some (sq,b))∧(i=2→∃ b1,decN 4 b0=some (sq,b1)∧decN 1 b1=some (hw,b)) ∧
     (i=3→∃ b1 b2 l,decN 4 b0=some (sq,b1)∧decN 1 b1=some (hw,b2)∧decL b2=some (l,b)∧∃ g,v=.slice (some ⟨g,0,none⟩) l.length l.length∧W.ownsRow B 3 1 v l.length (icells l)))
set_option maxRecDepth 100000 in
set_option maxHeartbeats 8000000 in
theorem record_any (bs bd bl:Nat) (x:StA) (c:StC) (D:Dsk) (k:Nat) (w:World) (h:IsStore w bs bd bl x c D) (hk:k≤1000) (hr:c.r.length≤1000000) :
   Calls Tryz.prog 77 #[.pointer (some ⟨bs,0,none⟩),.int .i64 k] w fun e w' => ∃ a,e=.returned (.tuple #[.agg #[.int .u32 (rcD c.r.length D k).1.seq,.bool (rcD c.r.length D k).1.stands,.slice a (rcD c.r.length D k).1.bid.length (rcD c.r.length D k).1.bid.length],.bool (rcD c.r.length D k).2])∧Below w.heap.size w w'∧NwI w.heap.size w' a (rcD c.r.length D k).1.bid:=by
 have hb0:Below w.heap.size w (w.alloc (.cells #[.int .u32 0,.bool false,.slice none 0 0] 60)):=(Below.refl _ _).alloc (Nat.le_refl _) _
 have hv2:=heap_new w (.cells #[.int .u32 ((0:Nat):Int),.bool false,.slice none 0 0] 60 (0,0))
 have hst:=h.below hb0
 have H0:=Lib.hid h
 have HRR:=Lib.hid hr
 obtain ⟨P0,hP⟩:∃ P0,P0=12*(2+k):=⟨_,rfl⟩
 have HP:=Lib.hid hP
 have hPk:P0≤100000:=by omega
 clear h hr hP
 go_enter Tryz.func77,Tryz.ntmps77
 go_wp2_with fail
 have hv2:(w.alloc (.cells #[.int .u32 0,.bool false,.slice none 0 0] 60)).heap[w.heap.size]?=some (.cells #[.int .u32 ((0:Nat):Int),.bool false,.slice none 0 0] 60 (0,0)):=hv2
 generalize w.alloc (.cells #[.int .u32 0,.bool false,.slice none 0 0] 60)=w0 at hb0 hv2 hst ⊢
 have f5:=hst.f.2.2
 have hd0:=(Below.refl w0.heap.size w0).drew
 go_region_held3 (fun w' => w'.cell? ⟨bs,5,none⟩=some (.pointer (some ⟨bd,0,none⟩))) (first
     | with_reducible exact cell_later hB1 f5
     | with_reducible exact cell_later hd0 f5) (first
   | (go_at_call 85;((with_reducible refine (strecord_at k P0 HP.out (by omega) w0.drew).mono ?_);rintro e w1 ⟨rfl,rfl⟩))
   | (go_at_call 53;((with_reducible refine (get_i bd bl D P0 P0 w0.drew rfl (hst.disk.touch (Touch.of_below (S:=fun _=>False) hd0) id id)).mono ?_);rintro e w1 ⟨a1,rfl,hb1,hi1,hlow⟩;have hB1:Below w0.heap.size w0 w1:=hd0.trans (hb1.mono hd0.size)))
   | fail)
 have hv2':=below_heap hB1 hv2 (lt_of_heap hv2)
 have HB:=Lib.hid (hb0.trans (hB1.mono hb0.size))
 have HI:=Lib.hid hi1
 have hz0:w.heap.size<w0.heap.size:=lt_of_heap hv2
 have HLOW:Hid (∀ k off,a1=some ⟨k,off,none⟩→(D.get (P0:Int)).2.1≠[]→w.heap.size<k):=Lib.hid (fun k off ha _=>by have h1:=hlow k off ha;have h2:w0.drew.heap.size=w0.heap.size:=rfl;omega)
 have HRC:Hid (rcD c.r.length D k=recC c.r.length (D.get (P0:Int)).1 (D.get (P0:Int)).2.1):=Lib.hid (by rw [HP.out];rfl)
 have hn1:w.heap.size<w1.heap.size:=lt_of_heap hv2'
 clear hst hb0 hv2 f5 hd0 hB1 hb1 hi1 hlow hz0
 generalize (D.get (P0:Int)).1=q at HRC ⊢
 generalize (D.get (P0:Int)).2.1=b at HRC HI HLOW ⊢
 generalize (D.get (P0:Int)).2.2=ee
 by_cases hq:q=0
 · have d1:((q:Int) == 0)=true:=by rw [hq];rfl
   have HR:Hid (rcD c.r.length D k=(⟨0,false,[]⟩,true)):=Lib.hid (by rw [HRC.out,hq];rfl)
   clear hq HRC
   go_wp2_with (first
     | (refine wpList_load_mid rfl 60 (.tmp 4) rfl w.heap.size 0 rfl [.int .u32 0,.bool false,.slice none 0 0] _ (rangeAt_row hv2') Tryz.underlying60 rfl info_rec ?_)
     | (refine wpList_store_whole rfl 60 (.tmp 4) (.tmp 24) rfl w.heap.size [.int .u32 0,.bool false,.slice none 0 0] _ _ hv2' rfl rfl rfl info_rec (rec_one _ _ _ _ _) ?_;intro w4 ht4 hg4)
     | fail)
   refine bodyPost_ret (results_cell_tmp rfl _ _ w.heap.size 0 rfl [.int .u32 0,.bool false,.slice none 0 0] _ (rangeAt_row hg4) Tryz.underlying60 rfl info_rec) rfl ?_
   rw [HR.out]
   exact ⟨none,rfl,HB.out.trans (ht4.below HB.out.size (fun k hk e=>by omega)),NwI.nil _ _⟩
 · have d1:((q:Int) == 0)=false:=by rw [beq_eq_false_iff_ne];omega
   have HQ:=Lib.hid hq
   clear hq
   obtain ⟨hwa,r0,r1,r2,r3⟩:=alloc4_facts w1 (.cells #[.slice a1 b.length b.length,.bool false] 161 (0,0)) (.cells #[.pointer (some ⟨w1.heap.size,0,none⟩)] 159 (0,0)) (.cells #[.int .u64 0] 25 (0,0)) (.cells #[.func (.func 159) #[] #[.pointer (some ⟨w1.heap.size+1,0,none⟩),.pointer (some ⟨w.heap.size,0,none⟩)],.func (.func 160) #[] #[.pointer (some ⟨w1.heap.size+1,0,none⟩),.pointer (some ⟨w1.heap.size+1+1,0,none⟩)],.func (.func 161) #[] #[.pointer (some ⟨w1.heap.size+1,0,none⟩),.pointer (some ⟨w.heap.size,0,none⟩)]] 1 (0,0))
   go_wp2_with fail
   generalize (((w1.alloc (.cells #[.slice a1 b.length b.length,.bool false] 161)).alloc (.cells #[.pointer (some ⟨w1.heap.size,0,none⟩)] 159)).alloc (.cells #[.int .u64 0] 25)).alloc (.cells #[.func (.func 159) #[] #[.pointer (some ⟨w1.heap.size+1,0,none⟩),.pointer (some ⟨w.heap.size,0,none⟩)],.func (.func 160) #[] #[.pointer (some ⟨w1.heap.size+1,0,none⟩),.pointer (some ⟨w1.heap.size+1+1,0,none⟩)],.func (.func 161) #[] #[.pointer (some ⟨w1.heap.size+1,0,none⟩),.pointer (some ⟨w.heap.size,0,none⟩)]] 1)=wA at hwa r0 r1 r2 r3 ⊢
   have m2:=below_heap hwa hv2' (lt_of_heap hv2')
   have hIA:=HI.out.below hwa
   have HBA:=Lib.hid (HB.out.trans (hwa.mono HB.out.size))
   have hsz:w1.heap.size+1+1+1<wA.heap.size:=lt_of_heap r3
   refine (runs_any (P:=fun k=>w.heap.size<k∧k<w1.heap.size) w1.heap.size (some ⟨w1.heap.size+1+1+1,0,none⟩) 3 [(159,#[.pointer (some ⟨w1.heap.size+1,0,none⟩),.pointer (some ⟨w.heap.size,0,none⟩)]),(160,#[.pointer (some ⟨w1.heap.size+1,0,none⟩),.pointer (some ⟨w1.heap.size+1+1,0,none⟩)]),(161,#[.pointer (some ⟨w1.heap.size+1,0,none⟩),.pointer (some ⟨w.heap.size,0,none⟩)])] (RcJ (fun k=>w.heap.size<k∧k<w1.heap.size) b w.heap.size (w1.heap.size+1+1) w1.heap.size wA w1.heap.size) b wA ?hJ (by simp) (by simp) ?hstep ?hcall ?hskip ?h0).mono ?_
   case hJ =>
     rintro i b' bad W ⟨ht,hr,_⟩
     refine ⟨hr,_,_,rfl,fun j hj => ?_⟩
     have hW:=ht.heap r3 (by omega)
     rw [Nat.zero_add,cell_of_block hW]
     match j,hj with
     | 0,_=>rfl
     | 1,_=>rfl
     | 2,_=>rfl
   case hstep =>
     rintro i hi b' W ⟨ht,hr,sq,hw,v,q2,q3,hsq,hhw,⟨va,vn,vc,rfl⟩,_,hst⟩
     have hW1:=ht.heap r1 (by omega)
     obtain ⟨s0,s1,s2,s3⟩:=hst rfl
     match i,hi with
     | 0,_ =>
       obtain rfl:=s0 rfl
       refine (clo_record1 (w1.heap.size+1) w1.heap.size w.heap.size _ _ _ b' W hW1 q2 (by omega) (by simp) hr (by omega)).mono ?_
       rintro e W' ⟨rfl,v',ht',hh',hr',rfl⟩
       refine ⟨rfl,?_⟩
       have ht2:=ht.trans (ht'.weaken (T:=fun k=>k=w.heap.size∨k=w1.heap.size+1+1∨k=w1.heap.size) (fun k _ hk=>by omega))
       have q3':=ht'.heap q3 (by omega)
       have hlt:=decN_lt 4 b'
       cases hd:decN 4 b' with
       | none =>
         rw [hd] at hr'
         exact ⟨_,true,ht2,hr',0,hw,_,by simpa [hd] using hh',q3',by decide,hhw,⟨_,_,_,rfl⟩,(fun _=>by rw [decR_k,hd]),fun h=>by cases h⟩
       | some y =>
         obtain ⟨p',r⟩:=y
         rw [hd] at hr' hlt
         exact ⟨_,false,ht2,hr',p',hw,_,by simpa [hd] using hh',q3',hlt,hhw,⟨_,_,_,rfl⟩,(fun h=>by cases h),fun _=>⟨(fun h=>by omega),(fun _=>by rw [hd]),(fun h=>by omega),(fun h=>by omega)⟩⟩
     | 1,_ =>
       have s1:=s1 rfl
       refine (clo_record2 (w1.heap.size+1) w1.heap.size (w1.heap.size+1+1) _ _ _ b' W hW1 q3 (by omega) (by simp) hr (by omega)).mono ?_
       rintro e W' ⟨rfl,v',ht',hh',hr',rfl⟩
       refine ⟨rfl,?_⟩
       have ht2:=ht.trans (ht'.weaken (T:=fun k=>k=w.heap.size∨k=w1.heap.size+1+1∨k=w1.heap.size) (fun k _ hk=>by omega))
       have q2':=ht'.heap q2 (by omega)
       have hlt:=decN_lt 1 b'
       cases hd:decN 1 b' with
       | none =>
         rw [hd] at hr'
         exact ⟨_,true,ht2,hr',sq,0,_,q2',by simpa [hd] using hh',hsq,by decide,⟨_,_,_,rfl⟩,(fun _=>by rw [decR_k,s1];dsimp only;rw [hd]),fun h=>by cases h⟩
       | some y =>
         obtain ⟨p',r⟩:=y
         rw [hd] at hr' hlt
         exact ⟨_,false,ht2,hr',sq,p',_,q2',by simpa [hd] using hh',hsq,hlt,⟨_,_,_,rfl⟩,(fun h=>by cases h),fun _=>⟨(fun h=>by omega),(fun h=>by omega),(fun _=>⟨b',s1,by rw [hd]⟩),(fun h=>by omega)⟩⟩
     | 2,_ =>
       obtain ⟨b1,s1,s2⟩:=s2 rfl
       refine (clo_record3 (w1.heap.size+1) w1.heap.size w.heap.size _ _ _ b' W hW1 q2 (by omega) (by simp) hr (by omega)).mono ?_
       rintro e W' ⟨rfl,v',ht',hh',hr',hv'⟩
       refine ⟨rfl,?_⟩
       have ht2:=ht.trans (ht'.weaken (T:=fun k=>k=w.heap.size∨k=w1.heap.size+1+1∨k=w1.heap.size) (fun k _ hk=>by omega))
       have q3':=ht'.heap q3 (by omega)
       cases hd:decL b' with
       | none =>
         rw [hd] at hr' hv'
         obtain rfl:=hv'
         exact ⟨_,true,ht2,hr',sq,hw,_,hh',q3',hsq,hhw,⟨_,_,_,rfl⟩,(fun _=>by rw [decR_k,s1];dsimp only;rw [s2];dsimp only;rw [hd]),fun h=>by cases h⟩
       | some y =>
         obtain ⟨l,r⟩:=y
         rw [hd] at hr' hv'
         obtain ⟨g,rfl,ho⟩:=hv'
         exact ⟨_,false,ht2,hr',sq,hw,_,hh',q3',hsq,hhw,⟨_,_,_,rfl⟩,(fun h=>by cases h),fun _=>⟨(fun h=>by omega),(fun h=>by omega),(fun h=>by omega),(fun _=>⟨b1,b',l,s1,s2,hd,g,rfl,owns_low ho (Nat.le_trans (by omega) ht.size)⟩)⟩⟩
   case hcall =>
     intro i hi W
     match i,hi with
     | 0,_=>exact (enters_of Tryz.func159 (by kernel_rfl) rfl) _ _
     | 1,_=>exact (enters_of Tryz.func160 (by kernel_rfl) rfl) _ _
     | 2,_=>exact (enters_of Tryz.func161 (by kernel_rfl) rfl) _ _
   case hskip =>
     rintro i b' W ⟨ht,hr,sq,hw,v,q2,q3,hsq,hhw,hv,hbad,_⟩
     exact ⟨ht,hr,sq,hw,v,q2,q3,hsq,hhw,hv,hbad,fun h=>by cases h⟩
   case h0 =>
     exact ⟨Touch.refl _ _,⟨_,_,_,r0,hIA,fun k off ha hl=>⟨HLOW.out k off ha hl,HI.out.ltSize k off ha hl⟩⟩,0,0,_,m2,r2,by decide,by decide,⟨_,_,_,rfl⟩,(fun h=>by cases h),fun _=>⟨(fun _=>rfl),(fun h=>by omega),(fun h=>by omega),(fun h=>by omega)⟩⟩
   rintro e W ⟨b',bad,⟨ht,hr,sq,hw,v,q2,q3,hsq,hhw,⟨va,vn,vc,rfl⟩,hbad,hst⟩,rfl⟩
   have hBW:Below w.heap.size w W:=HBA.out.trans (ht.below HBA.out.size (fun k hk e=>by omega))
   have u3:W.cell? ⟨w1.heap.size+1+1,0,none⟩=some (.int .u64 hw):=by rw [cell_of_block q3];rfl
   have u2:W.cell? ⟨w.heap.size,1,none⟩=some (.bool false):=by rw [cell_of_block q2];rfl
   have z2:W.frozen? ⟨w.heap.size,1,none⟩=false:=blk_free q2
   obtain ⟨st,hst'⟩:∃ st,((hw:Int) == 1)=st:=⟨_,rfl⟩
   have hv4:(W.setCell ⟨w.heap.size,1,none⟩ (.bool st)).heap[w.heap.size]?=some (.cells #[.int .u32 sq,.bool st,.slice va vn vc] 60 (0,0)):=by
     rw [heap_setCell_same _ w.heap.size 1 _ _ _ q2];rfl
   have u4:(W.setCell ⟨w.heap.size,1,none⟩ (.bool st)).cell? ⟨w1.heap.size+1+1,0,none⟩=some (.int .u64 hw):=by
     rw [World.cell?_setCell_other _ _ _ _ (by simp)];exact u3
   have HB4:Hid (Below w.heap.size w (W.setCell ⟨w.heap.size,1,none⟩ (.bool st))):=Lib.hid (hBW.setCell (p:=⟨w.heap.size,1,none⟩) (Nat.le_refl _) _)
   have HV4:=Lib.hid hv4
   have HST:=Lib.hid hst'
   clear m2 hIA hv2' r0 r1 r2 r3 hwa hBW q2 q3 ht hr
   by_cases hok:bad=false∧b'=[]
   · obtain ⟨rfl,rfl⟩:=hok
     obtain ⟨b1,b2,l,hd1,hd2,hd3,g,hv,ho⟩:=(hst rfl).2.2.2 rfl
     cases hv
     have hdec:decR b=some (sq,hw,l):=by rw [decR_k,hd1];dsimp only;rw [hd2];dsimp only;rw [hd3];rfl
     have hl255:=(decL_len hd3).1
     have HRD:Hid (rcD c.r.length D k=if hw≤1∧fitsC c.r.length ⟨sq,hw == 1,l⟩=true then (⟨sq,hw == 1,l⟩,true) else (⟨0,false,[]⟩,false)):=Lib.hid (by rw [HRC.out];unfold recC;rw [if_neg HQ.out,hdec])
     have HO4:=Lib.hid (owns_touch ho (touch_set W w.heap.size 1 (.bool st)) (fun k hk=>by have:=owns_base ho k hk;omega))
     clear hdec hd1 hd2 hd3 hst hbad ho hv4
     by_cases h1:1<hw
     · have d2:decide ((1:Int)<(hw:Int))=true:=decide_eq_true (by omega)
       have HR:Hid (rcD c.r.length D k=(⟨0,false,[]⟩,false)):=Lib.hid (by rw [HRD.out,if_neg (fun e=>by omega)])
       clear h1
       go_wp2_with (first
         | (refine wpList_store_whole rfl 60 (.tmp 4) (.tmp 49) rfl w.heap.size [.int .u32 0,.bool false,.slice none 0 0] _ _ HV4.out rfl rfl rfl info_rec (rec_one _ _ _ _ _) ?_;intro w4 ht4 hg4)
         | fail)
       refine bodyPost_ret (results_cell_tmp rfl _ _ w.heap.size 0 rfl [.int .u32 0,.bool false,.slice none 0 0] _ (rangeAt_row hg4) Tryz.underlying60 rfl info_rec) rfl ?_
       rw [HR.out]
       exact ⟨none,rfl,HB4.out.trans (ht4.below HB4.out.size (fun k hk e=>by omega)),NwI.nil _ _⟩
     · have d2:decide ((1:Int)<(hw:Int))=false:=decide_eq_false (by omega)
       have hws:(hw == 1)=st:=by rw [← HST.out];cases hx:(hw == 1) <;> simp at hx ⊢ <;> omega
       have HRE:Hid (rcD c.r.length D k=if fitsC c.r.length ⟨sq,st,l⟩=true then (⟨sq,st,l⟩,true) else (⟨0,false,[]⟩,false)):=Lib.hid (by
         rw [HRD.out,hws]
         by_cases hf:fitsC c.r.length ⟨sq,st,l⟩=true
         · rw [if_pos ⟨by omega,hf⟩,if_pos hf]
         · rw [if_neg (fun e=>hf e.2),if_neg hf])
       have HFI:=Lib.hid (fits_any bs bd bl x c D sq st (some ⟨g,0,none⟩) l.length l.length l (W.setCell ⟨w.heap.size,1,none⟩ (.bool st)) (H0.out.below HB4.out) (isI_of_owns HO4.out rfl) HRR.out)
       clear h1 hws HRD
       go_wp2_with (first
         | (refine wpList_load_want2 (by rfl) 60 (.tmp 4) rfl w.heap.size 0 rfl [.int .u32 sq,.bool st,.slice (some ⟨g,0,none⟩) l.length l.length] _ (rangeAt_row HV4.out) Tryz.underlying60 rfl info_rec ?_)
         | fail)
       refine HFI.out.mono ?_;rintro e W5 ⟨rfl,hb5⟩
       have hv5:=below_heap hb5 HV4.out (lt_of_heap HV4.out)
       have HB5:=Lib.hid (HB4.out.trans (hb5.mono HB4.out.size))
       have HO5:=Lib.hid (owns_below HO4.out hb5)
       clear hb5 HFI u2 u3 u4 z2
       cases hfc:fitsC c.r.length ⟨sq,st,l⟩ with
       | false =>
         have HR:Hid (rcD c.r.length D k=(⟨0,false,[]⟩,false)):=Lib.hid (by rw [HRE.out,hfc];rfl)
         clear hfc
         go_wp2_with (first
           | (refine wpList_store_whole rfl 60 (.tmp 4) (.tmp 49) rfl w.heap.size [.int .u32 0,.bool false,.slice none 0 0] _ _ hv5 rfl rfl rfl info_rec (rec_one _ _ _ _ _) ?_;intro w4 ht4 hg4)
           | fail)
         refine bodyPost_ret (results_cell_tmp rfl _ _ w.heap.size 0 rfl [.int .u32 0,.bool false,.slice none 0 0] _ (rangeAt_row hg4) Tryz.underlying60 rfl info_rec) rfl ?_
         rw [HR.out]
         exact ⟨none,rfl,HB5.out.trans (ht4.below HB5.out.size (fun k hk e=>by omega)),NwI.nil _ _⟩
       | true =>
         have HR:Hid (rcD c.r.length D k=(⟨sq,st,l⟩,true)):=Lib.hid (by rw [HRE.out,hfc];rfl)
         clear hfc
         go_wp2_with (first
           | (refine wpList_load_mid rfl 60 (.tmp 4) rfl w.heap.size 0 rfl [.int .u32 sq,.bool st,.slice (some ⟨g,0,none⟩) l.length l.length] _ (rangeAt_row hv5) Tryz.underlying60 rfl info_rec ?_)
           | (refine wpList_store_whole rfl 60 (.tmp 4) (.tmp 50) rfl w.heap.size [.int .u32 sq,.bool st,.slice (some ⟨g,0,none⟩) l.length l.length] _ _ hv5 rfl rfl rfl info_rec (rec_one _ _ _ _ _) ?_;intro w4 ht4 hg4)
           | fail)
         refine bodyPost_ret (results_cell_tmp rfl _ _ w.heap.size 0 rfl [.int .u32 sq,.bool st,.slice (some ⟨g,0,none⟩) l.length l.length] _ (rangeAt_row hg4) Tryz.underlying60 rfl info_rec) rfl ?_
         rw [HR.out]
         exact ⟨some ⟨g,0,none⟩,rfl,HB5.out.trans (ht4.below HB5.out.size (fun k hk e=>by omega)),l.length,owns_low (owns_touch HO5.out ht4 (fun k hk=>by have:=owns_base HO5.out k hk;omega)) (Nat.le_of_lt hn1)⟩
   · have hnone:decR b=none:=by
       cases bad with
       | true=>exact hbad rfl
       | false =>
         obtain ⟨b1,b2,l,hd1,hd2,hd3,_⟩:=(hst rfl).2.2.2 rfl
         rw [decR_k,hd1];dsimp only;rw [hd2];dsimp only;rw [hd3];dsimp only
         rw [if_neg (fun e=>hok ⟨rfl,e⟩)]
     have hE:Hid ((!bad && b'.isEmpty)=false):=Lib.hid (by
       cases bad with
       | true=>rfl
       | false =>
         have:b'≠[]:=fun e=>hok ⟨rfl,e⟩
         cases b' <;> simp_all)
     have HR:Hid (rcD c.r.length D k=(⟨0,false,[]⟩,false)):=Lib.hid (by rw [HRC.out];unfold recC;rw [if_neg HQ.out,hnone])
     rw [hE.out]
     clear hok hnone hst hbad hv4
     go_wp2_with (first
       | (refine wpList_store_whole rfl 60 (.tmp 4) (.tmp 49) rfl w.heap.size [.int .u32 0,.bool false,.slice none 0 0] _ _ HV4.out rfl rfl rfl info_rec (rec_one _ _ _ _ _) ?_;intro w4 ht4 hg4)
       | fail)
     refine bodyPost_ret (results_cell_tmp rfl _ _ w.heap.size 0 rfl [.int .u32 0,.bool false,.slice none 0 0] _ (rangeAt_row hg4) Tryz.underlying60 rfl info_rec) rfl ?_
     rw [HR.out]
     exact ⟨none,rfl,HB4.out.trans (ht4.below HB4.out.size (fun k hk e=>by omega)),NwI.nil _ _⟩
/- The package stores: Record;conditions: those typed. -/
set_option maxHeartbeats 4000000 in
theorem record_bad (bs bd bl:Nat) (x:StA) (c:StC) (D:Dsk) (who:Int) (w:World) (h:IsStore w bs bd bl x c D) (hw:who<0∨(c.s.length:Int)≤who) :
   Calls Tryz.prog 30 #[.pointer (some ⟨bs,0,none⟩),.int .i64 who] w fun e w' => e=.returned (.tuple #[.agg #[.int .u32 0,.bool false,.slice none 0 0],.int .i64 1])∧Below w.heap.size w w':=by
 have hb0:Below w.heap.size w (w.alloc (.cells #[.int .u32 0,.bool false,.slice none 0 0] 60)):=(Below.refl _ _).alloc (Nat.le_refl _) _
 have hv2:=heap_new w (.cells #[.int .u32 0,.bool false,.slice none 0 0] 60 (0,0))
 have hst:=h.below hb0
 clear h
 go_enter Tryz.func30,Tryz.ntmps30
 go_wp2_with fail
 generalize w.alloc (.cells #[.int .u32 0,.bool false,.slice none 0 0] 60)=w0 at hb0 hv2 hst ⊢
 have HB:=Lib.hid hb0
 have HV:=Lib.hid hv2
 have f1:=hst.f.2.1
 rw [hst.rn.2] at f1
 refine (there_any bs bd bl x c D w0 hst).mono ?_;rintro e w1 ⟨rfl,rfl⟩
 clear hst hb0 hv2
 by_cases hneg:who<0
 · have d1:decide (who<0)=true:=decide_eq_true hneg
   clear hw hneg
   go_wp2_with (first
     | (refine wpList_load_mid rfl 60 (.tmp 4) rfl w.heap.size 0 rfl [.int .u32 0,.bool false,.slice none 0 0] _ (rangeAt_row HV.out) Tryz.underlying60 rfl info_rec ?_)
     | (refine wpList_store_whole rfl 60 (.tmp 4) (.tmp 25) rfl w.heap.size [.int .u32 0,.bool false,.slice none 0 0] _ _ HV.out rfl rfl rfl info_rec (rec_one _ _ _ _ _) ?_;intro w4 ht4 hg4)
     | fail)
   refine bodyPost_ret (results_cell_tmp rfl _ _ w.heap.size 0 rfl [.int .u32 0,.bool false,.slice none 0 0] _ (rangeAt_row hg4) Tryz.underlying60 rfl info_rec) rfl ?_
   exact ⟨rfl,HB.out.trans (ht4.below HB.out.size (fun k hk e=>by omega))⟩
 · have d1:decide (who<0)=false:=decide_eq_false hneg
   have d2:decide ((c.s.length:Int)≤who)=true:=decide_eq_true (by omega)
   clear hw hneg
   go_wp2_with (first
     | (refine wpList_load_mid rfl 60 (.tmp 4) rfl w.heap.size 0 rfl [.int .u32 0,.bool false,.slice none 0 0] _ (rangeAt_row HV.out) Tryz.underlying60 rfl info_rec ?_)
     | (refine wpList_store_whole rfl 60 (.tmp 4) (.tmp 25) rfl w.heap.size [.int .u32 0,.bool false,.slice none 0 0] _ _ HV.out rfl rfl rfl info_rec (rec_one _ _ _ _ _) ?_;intro w4 ht4 hg4)
     | fail)
   refine bodyPost_ret (results_cell_tmp rfl _ _ w.heap.size 0 rfl [.int .u32 0,.bool false,.slice none 0 0] _ (rangeAt_row hg4) Tryz.underlying60 rfl info_rec) rfl ?_
   exact ⟨rfl,HB.out.trans (ht4.below HB.out.size (fun k hk e=>by omega))⟩
set_option maxHeartbeats 4000000 in
theorem record_ok (bs bd bl:Nat) (x:StA) (c:StC) (D:Dsk) (k:Nat) (w:World) (h:IsStore w bs bd bl x c D) (hk:k<c.s.length) (hs:c.s.length≤1000) (hr:c.r.length≤1000000) :
   Calls Tryz.prog 30 #[.pointer (some ⟨bs,0,none⟩),.int .i64 k] w fun e w' => ∃ a,e=.returned (.tuple #[.agg #[.int .u32 (rcD c.r.length D k).1.seq,.bool (rcD c.r.length D k).1.stands,.slice a (rcD c.r.length D k).1.bid.length (rcD c.r.length D k).1.bid.length],.int .i64 0])∧Below w.heap.size w w'∧NwI w.heap.size w' a (rcD c.r.length D k).1.bid:=by
 have hb0:Below w.heap.size w (w.alloc (.cells #[.int .u32 0,.bool false,.slice none 0 0] 60)):=(Below.refl _ _).alloc (Nat.le_refl _) _
 have hv2:=heap_new w (.cells #[.int .u32 0,.bool false,.slice none 0 0] 60 (0,0))
 have hst:=h.below hb0
 clear h
 go_enter Tryz.func30,Tryz.ntmps30
 go_wp2_with fail
 generalize w.alloc (.cells #[.int .u32 0,.bool false,.slice none 0 0] 60)=w0 at hb0 hv2 hst ⊢
 have HB:=Lib.hid hb0
 have HV:=Lib.hid hv2
 have f1:=hst.f.2.1
 rw [hst.rn.2] at f1
 refine (there_any bs bd bl x c D w0 hst).mono ?_;rintro e w1 ⟨rfl,rfl⟩
 have HREC:=Lib.hid (record_any bs bd bl x c D k w0 hst (by omega) hr)
 clear hst hb0 hv2
 have d1:decide ((k:Int)<0)=false:=decide_eq_false (by omega)
 have d2:decide (((c.s.length:Nat):Int)≤(k:Int))=false:=decide_eq_false (by omega)
 have d3:decide (c.s.length≤k)=false:=decide_eq_false (by omega)
 clear hk hs hr
 go_wp2_with fail
 refine HREC.out.mono ?_;rintro e w1 ⟨a,rfl,hb1,hn⟩
 have hb2:=HB.out.trans (hb1.mono HB.out.size)
 have HB2:=Lib.hid hb2
 have hv3:=below_heap hb1 HV.out (lt_of_heap HV.out)
 have HN:=Lib.hid hn
 have HS:Hid (w.heap.size<w0.heap.size):=Lib.hid (lt_of_heap HV.out)
 clear HREC
 obtain ⟨r,hr⟩:∃ r,r=rcD c.r.length D k:=⟨_,rfl⟩
 have HR:=Lib.hid hr
 rw [← hr] at HN ⊢
 clear hr
 obtain ⟨⟨sq,st,l⟩,ok⟩:=r
 dsimp only at HN ⊢
 clear hb1 hn hb2
 go_wp2_with (first
   | (refine wpList_store_whole rfl 60 (.tmp 4) (.tmp 30) rfl w.heap.size [.int .u32 sq,.bool st,.slice a l.length l.length] _ _ hv3 rfl rfl rfl info_rec (rec_one _ _ _ _ _) ?_;intro w4 ht4 hg4)
   | (refine wpList_load_mid rfl 60 (.tmp 4) rfl w.heap.size 0 rfl [.int .u32 sq,.bool st,.slice a l.length l.length] _ (rangeAt_row hg4) Tryz.underlying60 rfl info_rec ?_)
   | (refine wpList_store_whole rfl 60 (.tmp 4) (.tmp 32) rfl w.heap.size [.int .u32 sq,.bool st,.slice a l.length l.length] _ _ hg4 rfl rfl rfl info_rec (rec_one _ _ _ _ _) ?_;intro w5 ht5 hg5)
   | fail)
 refine bodyPost_ret (results_cell_tmp rfl _ _ w.heap.size 0 rfl [.int .u32 sq,.bool st,.slice a l.length l.length] _ (rangeAt_row hg5) Tryz.underlying60 rfl info_rec) rfl ?_
 have ht:=ht4.trans ht5
 have ht6:Touch (fun k=>k=w.heap.size) w1 w5:=ht.weaken (fun k _ e=>by first | exact e | (rcases e with e | e <;> exact e))
 rw [← HR.out]
 exact ⟨a,rfl,HB2.out.trans (ht6.below HB2.out.size (fun k hk e=>by omega)),(HN.out.touch ht6 (fun k hk e=>by have:=HS.out;omega)).low (Nat.le_of_lt HS.out)⟩
/- The package stores: Set;conditions: those typed. -/
theorem run_append_newB (w:World) (ty:TypeId) (x:Addr) (n:Nat) (l:List UInt8) (hl:IsB w (some x) n n l) (bo:Option Addr) (m c:Nat) (k:List UInt8) (hk:IsB w bo m c k) (h0:k≠[]) (hsm:l.length+k.length≤100000000) :
   ∃ g c' w',(Builtin.append_ #[24,24] ty #[.slice (some x) n n,.slice bo m c]).run Tryz.prog w=.ok (.slice (some ⟨g,0,none⟩) (n+m) c') w'∧w'.ownsRow w.heap.size 5 1 (.slice (some ⟨g,0,none⟩) (n+m) c') (n+m) (bcells (l ++ k))∧Below w.heap.size w w':=by
 obtain ⟨i,hi,hz,hs,hb⟩:=info_parts rowU8.info
 have ht:=rowU8.ht
 obtain rfl:=hl.1
 obtain rfl:=hk.1
 have hal:=hl.at
 have hat:=hk.at
 have hpos:0<k.length:=List.length_pos_iff.2 h0
 obtain ⟨xb,xo,rfl⟩:=hk.nonnil hpos
 have hat':∀ j u,(bcells k)[j]?=some u→w.cell? ((⟨xb,xo,none⟩:Addr).add j)=some u:=fun j u h=>by
   obtain ⟨b,hb,hc⟩:=hat j u h;cases hb;exact hc
 obtain ⟨v', w', h1, h2, h3⟩ := run_append_arg_grows (P := Tryz.prog) w 24 ty 5 i _ 1 1 ht hi hz hs hb rfl (by decide) x l.length l.length (bcells l) (by rw [bcells_length, Nat.mul_one]) (fun j u h => by
         obtain ⟨b,hb,hc⟩:=hal j u h;cases hb;exact hc) ⟨xb,xo,none⟩ k.length c (bcells k) (by rw [bcells_length,Nat.mul_one]) hat' (by omega) (by unfold maxLen;omega) (by omega)
 obtain ⟨b',c',rfl⟩:=owns_shape h2
 rw [← bcells_append] at h2
 have hb2:=(Below.refl _ w).grown h3 (Nat.le_refl _) (fun j hj=>by cases hj)
 rcases h2.2 with ⟨h,h'⟩ | ⟨g,_,_,h,_⟩
 · omega
 · obtain ⟨h4,_⟩:=Value.slice.inj h
   subst h4
   exact ⟨g,c',w',h1,h2,hb2⟩
theorem wpList_append_newB {w:World} {ops:Array Oper} {rest:List Oper} {o:Oper} {a:Act} {Q:Exit→Act→World→Prop} (hgd:o.guard=none) (s x:Operand)
   (ho:o.op=.call { callee:=.builtin .append,args:=#[s,x],argTypes:=#[24,24] })
   (ao:Addr) (n:Nat) (l:List UInt8) (hs:a.eval s=.slice (some ao) n n) (hl:IsB w (some ao) n n l) (bo:Option Addr) (m c:Nat) (k:List UInt8) (hx:a.eval x=.slice bo m c) (hk:IsB w bo m c k) (h0:k≠[]) (hsm:l.length+k.length≤100000000)
   (h:∀ g c' w',w'.ownsRow w.heap.size 5 1 (.slice (some ⟨g,0,none⟩) (n+m) c') (n+m) (bcells (l ++ k))→Below w.heap.size w w'→wpList Tryz.prog ops Q rest (a.put o.dst (.slice (some ⟨g,0,none⟩) (n+m) c')) w'):wpList Tryz.prog ops Q (o :: rest) a w:=by
 refine wpList_plain hgd fun _ hK => ?_
 obtain ⟨g,c',w',hr,h2,h3⟩:=run_append_newB w o.type ao n l hl bo m c k hk h0 hsm
 exact Lib.wp_append_run w s x _ _ ho _ _ hs hx _ w' hr (hK _ _ (h g c' w' h2 h3))
theorem set4 {w:World} {B g cp:Nat} {l:List UInt8} (h:w.ownsRow B 5 1 (.slice (some ⟨g,0,none⟩) (4+1) cp) (4+1) (bcells (l ++ [0]))) (hl:l.length=4) :
   w.cell? ⟨g,4,none⟩=some (.int .u8 0)∧w.frozen? ⟨g,4,none⟩=false∧B≤g∧Below B w (w.setCell ⟨g,4,none⟩ (.int .u8 1))∧IsB (w.setCell ⟨g,4,none⟩ (.int .u8 1)) (some ⟨g,0,none⟩) (4+1) cp (l ++ [1])∧g<w.heap.size:=by
 have hB:=isB_of_owns h (by simp [hl])
 have hg:=owns_base h g rfl
 obtain ⟨h1,h2,h3,h4⟩:=hB
 rcases h4 with ⟨h4,_⟩ | ⟨b,off,h4,hb,hc⟩
 · simp at h4
 · cases h4
   have c4:w.cell? ⟨g,4,none⟩=some (.int .u8 0):=by
     have:=hc 4 (by simp [hl])
     rw [Nat.zero_add] at this
     rw [this]
     simp [hl]
   have hf:w.frozen? ⟨g,4,none⟩=false:=by
     rcases h.2 with ⟨h,_⟩ | ⟨g',cap,cur,h,_,hg',_⟩
     · cases h
     · cases h;exact blk_free hg'
   refine ⟨c4,hf,hg,(Below.refl _ _).setCell (p:=⟨g,4,none⟩) hg _,⟨by simp [hl],by simp [hl] at h2 ⊢;omega,h3,.inr ⟨g,0,rfl,by simpa using hb,fun i hi => ?_⟩⟩,hb⟩
   rw [Nat.zero_add]
   by_cases h4:i=4
   · subst h4
     rw [World.cell?_setCell_same _ _ _ c4]
     simp [hl]
   · rw [World.cell?_setCell_other _ _ _ _ (by simp <;> omega)]
     have:=hc i (by simpa using hi)
     rw [Nat.zero_add] at this
     rw [this]
     simp at hi
     rw [List.getElem_append_left (by omega),List.getElem_append_left (by omega)]
theorem setD_bad {n items:Nat} {D:Dsk} {who:Int} {x:StR} (h:who<0∨(n:Int)≤who):setD n items D who x=(1,D):=if_pos h
set_option maxRecDepth 100000 in
set_option maxHeartbeats 4000000 in
theorem set_bad (bs bd bl:Nat) (x:StA) (c:StC) (D:Dsk) (who:Int) (sq:Nat) (st:Bool) (a:Option Addr) (n cap:Nat) (w:World) (h:IsStore w bs bd bl x c D) (hw:who<0∨(c.s.length:Int)≤who) :
   Calls Tryz.prog 26 #[.pointer (some ⟨bs,0,none⟩),.int .i64 who,.agg #[.int .u32 sq,.bool st,.slice a n cap]] w fun e w' => e=.returned (.int .i64 1)∧Below w.heap.size w w':=by
 have hb0:Below w.heap.size w (w.alloc (.cells #[.int .u32 sq,.bool st,.slice a n cap] 60)):=(Below.refl _ _).alloc (Nat.le_refl _) _
 have HREC:=Lib.hid (record_bad bs bd bl x c D who _ (h.below hb0) hw)
 clear h hw
 go_enter Tryz.func26,Tryz.ntmps26
 go_wp2_with fail
 refine HREC.out.mono ?_;rintro e w1 ⟨rfl,hb1⟩
 have HB1:=Lib.hid (hb0.trans (hb1.mono hb0.size))
 clear hb0 hb1 HREC
 go_wp2_with fail
 go_ret
 exact ⟨rfl,HB1.out.alloc HB1.out.size _⟩
theorem set_keeps {bs bd bl:Nat} {x:StA} {c:StC} {D:Dsk} {k:Int} {w:World} {who P0:Nat} {X:StR} (h:IsStore w bs bd bl x c D) (hP:P0=12*(2+who)) (hk:D.fine k) (hk2:k≤1000000000000000) (hlt:(D.get ((12*(2+who):Nat):Int)).1<4294967296) (w1:World) (hb:Below w.heap.size w w1) (a:Option Addr) (m:Nat) (hi:IsB w1 a m m X.enc) (ho:∀ b off,a=some ⟨b,off,none⟩→w.heap.size≤b) :
   Calls Tryz.prog 70 #[.pointer (some ⟨bs,0,none⟩),.int .i64 P0,.slice a m m] w1 fun e w' => e=.returned (.int .i64 (D.put ((12*(2+who):Nat):Int) (succ32 (D.get ((12*(2+who):Nat):Int)).1) X.enc).1)∧Touch (fun k=>k=bd∨k=bl) w1 w'∧IsDisk w' bd bl (D.put ((12*(2+who):Nat):Int) (succ32 (D.get ((12*(2+who):Nat):Int)).1) X.enc).2:=by
 subst hP
 have hlt2:=h.lt
 exact keeps_any bs bd bl x c D (12*(2+who)) _ a m m X.enc k w1 (h.below hb) rfl hi (fun y off hy _=>by have:=ho y off hy;omega) hk hk2 hlt
theorem enc_st (sq:Nat) (st:Bool) (l:List Int):StR.enc ⟨sq,st,l⟩=(leB sq 4 ++ [if st then 1 else 0]) ++ encL l:=by
 unfold StR.enc
 rw [leB_one]
 cases st <;> simp
set_option maxRecDepth 100000 in
set_option maxHeartbeats 16000000 in
theorem set_ok (bs bd bl:Nat) (x:StA) (c:StC) (D:Dsk) (who:Nat) (sq:Nat) (st:Bool) (a:Option Addr) (n cap:Nat) (l:List Int) (k:Int) (w:World) (h:IsStore w bs bd bl x c D) (hI:IsI w a n cap l) (hsq:sq<4294967296) (hw:who<c.s.length) (hs:c.s.length≤1000) (hr:c.r.length≤1000000) (hk:D.fine k) (hk2:k≤1000000000000000) (hlt:(D.get ((12*(2+who):Nat):Int)).1<4294967296) :
   Calls Tryz.prog 26 #[.pointer (some ⟨bs,0,none⟩),.int .i64 who,.agg #[.int .u32 sq,.bool st,.slice a n cap]] w fun e w' => e=.returned (.int .i64 (setD c.s.length c.r.length D who ⟨sq,st,l⟩).1)∧Touch (fun k=>k=bd∨k=bl) w w'∧IsDisk w' bd bl (setD c.s.length c.r.length D who ⟨sq,st,l⟩).2:=by
 obtain rfl:=hI.1
 have hb0:Below w.heap.size w (w.alloc (.cells #[.int .u32 sq,.bool st,.slice a l.length cap] 60)):=(Below.refl _ _).alloc (Nat.le_refl _) _
 have hv:=heap_new w (.cells #[.int .u32 sq,.bool st,.slice a l.length cap] 60 (0,0))
 have hst:=h.below hb0
 obtain ⟨P0,hP0⟩:∃ P0,P0=12*(2+who):=⟨_,rfl⟩
 have HKEEP:=Lib.hid (fun W (hS:IsStore W bs bd bl x c D)=>set_keeps (X:=⟨sq,st,l⟩) hS hP0 hk hk2 hlt)
 have HREC:=Lib.hid (record_ok bs bd bl x c D who _ hst hw hs hr)
 have HFI:=Lib.hid (fun W hS hI=>fits_any bs bd bl x c D sq st a l.length cap l W hS hI hr)
 have HAT:=Lib.hid (fun W=>strecord_at who P0 hP0 (by omega) W)
 have HI:=Lib.hid (hI.below hb0)
 have HLT:=Lib.hid h.lt
 have HSQ:=Lib.hid hsq
 obtain ⟨r0,hr0⟩:∃ r0,r0=rcD c.r.length D who:=⟨_,rfl⟩
 obtain ⟨R,hR⟩:∃ R,R=D.put ((12*(2+who):Nat):Int) (succ32 (D.get ((12*(2+who):Nat):Int)).1) (StR.enc ⟨sq,st,l⟩):=⟨_,rfl⟩
 rw [← hR] at HKEEP
 rw [← hr0] at HREC
 have HSD:Hid (setD c.s.length c.r.length D who ⟨sq,st,l⟩=if fitsC c.r.length ⟨sq,st,l⟩=false then (1,D) else if sq≤r0.1.seq then (10,D) else R):=Lib.hid (by
   unfold setD
   rw [if_neg (by omega),hr0,hR]
   rfl)
 have HE:=Lib.hid (enc_st sq st l)
 have HB0:=Lib.hid hb0
 have HV:=Lib.hid hv
 have HST:=Lib.hid hst
 clear hr0 hR h hI hst hb0 hv hk hk2 hlt hw hs hr hP0 hsq
 obtain ⟨⟨sq0,st0,l0⟩,ok0⟩:=r0
 dsimp only at HSD HREC
 go_enter Tryz.func26,Tryz.ntmps26
 go_wp2_with fail
 generalize w.alloc (.cells #[.int .u32 sq,.bool st,.slice a l.length cap] 60)=w0 at HB0 HV HST HI HREC ⊢
 refine HREC.out.mono ?_;rintro e w1 ⟨a1,rfl,hb1,_⟩
 have hbA:Below w1.heap.size w1 (w1.alloc (.cells #[.int .u32 sq0,.bool st0,.slice a1 l0.length l0.length] 60)):=(Below.refl _ _).alloc (Nat.le_refl _) _
 have hvA:=heap_new w1 (.cells #[.int .u32 sq0,.bool st0,.slice a1 l0.length l0.length] 60 (0,0))
 have hbB:Below w0.heap.size w0 (w1.alloc (.cells #[.int .u32 sq0,.bool st0,.slice a1 l0.length l0.length] 60)):=hb1.trans (hbA.mono hb1.size)
 have HBB:=Lib.hid hbB
 have HVA:=Lib.hid hvA
 have HVB:=Lib.hid (below_heap hbB HV.out (lt_of_heap HV.out))
 clear hb1 hbA hvA hbB HREC HV
 go_wp2_with (first
   | (refine wpList_load_mid rfl 60 (.tmp 5) rfl w.heap.size 0 rfl [.int .u32 sq,.bool st,.slice a l.length cap] _ (rangeAt_row HVB.out) Tryz.underlying60 rfl info_rec ?_)
   | fail)
 generalize (w1.alloc (.cells #[.int .u32 sq0,.bool st0,.slice a1 l0.length l0.length] 60))=w2 at HBB HVA HVB ⊢
 refine (HFI.out w2 (HST.out.below HBB.out) (HI.out.below HBB.out)).mono ?_;rintro e w3 ⟨rfl,hb3⟩
 have HB3:=Lib.hid (HBB.out.trans (hb3.mono HBB.out.size))
 have HVA3:=Lib.hid (below_heap hb3 HVA.out (lt_of_heap HVA.out))
 have HVB3:=Lib.hid (below_heap hb3 HVB.out (lt_of_heap HVB.out))
 clear hb3 HBB HVA HVB HFI
 cases hf:fitsC c.r.length ⟨sq,st,l⟩ with
 | false =>
   have H1:Hid (setD c.s.length c.r.length D who ⟨sq,st,l⟩=(1,D)):=Lib.hid (by rw [HSD.out,if_pos hf])
   clear hf
   go_wp2_with fail
   go_ret
   rw [H1.out]
   have hb:=HB0.out.trans (HB3.out.mono HB0.out.size)
   exact ⟨rfl,Touch.of_below hb,(HST.out.below HB3.out).disk⟩
 | true =>
   have H1:Hid (setD c.s.length c.r.length D who ⟨sq,st,l⟩=if sq≤sq0 then (10,D) else R):=Lib.hid (by rw [HSD.out,if_neg (by rw [hf];decide)])
   clear hf HSD
   have f0:w3.cell? ⟨w.heap.size,0,none⟩=some (.int .u32 sq):=by rw [cell_of_block HVB3.out];rfl
   have f1:w3.cell? ⟨w.heap.size,1,none⟩=some (.bool st):=by rw [cell_of_block HVB3.out];rfl
   have f2:w3.cell? ⟨w.heap.size,2,none⟩=some (.slice a l.length cap):=by rw [cell_of_block HVB3.out];rfl
   have q0:w3.cell? ⟨w1.heap.size,0,none⟩=some (.int .u32 sq0):=by rw [cell_of_block HVA3.out];rfl
   by_cases hle:sq≤sq0
   · have H2:Hid (setD c.s.length c.r.length D who ⟨sq,st,l⟩=(10,D)):=Lib.hid (by rw [H1.out,if_pos hle])
     have d1:decide ((sq:Int)≤(sq0:Int))=true:=decide_eq_true (by omega)
     have d2:decide (sq≤sq0)=true:=decide_eq_true hle
     clear H1 hle
     go_wp2_with fail
     go_ret
     rw [H2.out]
     have hb:=HB0.out.trans (HB3.out.mono HB0.out.size)
     exact ⟨rfl,Touch.of_below hb,(HST.out.below HB3.out).disk⟩
   · have H2:Hid (setD c.s.length c.r.length D who ⟨sq,st,l⟩=R):=Lib.hid (by rw [H1.out,if_neg hle])
     have d1:decide ((sq:Int)≤(sq0:Int))=false:=decide_eq_false (by omega)
     have d2:decide (sq≤sq0)=false:=decide_eq_false hle
     clear H1 hle
     go_wp2_with fail
     refine (nput_vo none 0 0 [] sq _ 4 4 w3 (by first | rfl | (rw [IntKind.wrap_u64];have:=HSQ.out;omega)) (IsB.nil _) rfl (by decide) (by have:=HSQ.out;omega) (by decide) (by decide)).mono ?_;rintro e w4 ⟨a4,rfl,hb4,hi4,ho4⟩
     rw [List.nil_append] at hi4
     have hl4:(leB sq 4).length=4:=leB_length _ _
     obtain ⟨b4,o4,rfl⟩:=hi4.nonnil (by rw [hl4];decide)
     have hbA:∀ e:TypeId,Below w4.heap.size w4 (w4.alloc (.cells #[.int .u8 0] e)):=fun e=>(Below.refl _ _).alloc (Nat.le_refl _) _
     have HBA:=Lib.hid hbA
     have HI4:=Lib.hid (fun e=>hi4.below (hbA e))
     have HB4:=Lib.hid (HB3.out.trans (hb4.mono HB3.out.size))
     have HL4:=Lib.hid hl4
     have HF:=Lib.hid (fun e=>(frozen1P w4 0 (by decide) e:IsB (w4.alloc (.cells #[.int .u8 0] e)) (some ⟨w4.heap.size,0,none⟩) 1 1 [0]))
     have g1:w4.cell? ⟨w.heap.size,1,none⟩=some (.bool st):=cell_later hb4 f1
     have g2:w4.cell? ⟨w.heap.size,2,none⟩=some (.slice a l.length cap):=cell_later hb4 f2
     have HVB4:=Lib.hid (below_heap hb4 HVB3.out (lt_of_heap HVB3.out))
     have hlt4:w.heap.size<w4.heap.size:=lt_of_heap HVB4.out
     clear hb4 hi4 ho4 hl4 hbA f0 f1 f2 q0 HB3 HVA3 HVB3
     cases st with
     | false =>
       go_wp2_with (first
         | (refine wpList_append_newB rfl (.tmp 34) (.tmp 35) rfl ⟨b4,o4,none⟩ 4 (leB sq 4) rfl (HI4.out _) (some ⟨w4.heap.size,0,none⟩) 1 1 [0] rfl (HF.out _) (by simp) (by rw [HL4.out];decide) ?_;intro g cp w5 ho5 hb5;have hB5:=(HBA.out 5).trans (hb5.mono (HBA.out 5).size);have g1':w5.cell? ⟨w.heap.size,1,none⟩=some (.bool false):=cell_later hB5 g1;have HO5:=Lib.hid (owns_low ho5 (HBA.out 5).size);have HBB5:=Lib.hid hB5;clear ho5 hb5 hB5)
         | fail)
       have HVB6:=Lib.hid (below_heap HBB5.out HVB4.out (lt_of_heap HVB4.out))
       have HB6:=Lib.hid (HB4.out.trans (HBB5.out.mono HB4.out.size))
       have HI6:Hid (IsB w5 (some ⟨g,0,none⟩) 5 cp (leB sq 4 ++ [0])):=Lib.hid (isB_of_owns HO5.out (by simp [HL4.out]))
       clear HVB4 HB4 HBB5 HO5 HI4 HF HBA g1 g2 g1'
       generalize w5=w6 at HVB6 HB6 HI6 ⊢
       have hvb6:=HVB6.out
       have k2:w6.cell? ⟨w.heap.size,2,none⟩=some (.slice a l.length cap):=by rw [cell_of_block hvb6];rfl
       have kd0:=(Below.refl w6.heap.size w6).drew
       have hlt6:w.heap.size<w6.heap.size:=lt_of_heap hvb6
       have HBd:=Lib.hid (HB6.out.trans (kd0.mono HB6.out.size))
       have hi6:=HI6.out.below kd0
       have HI6d:=Lib.hid hi6
       have HLd:=Lib.hid (HI.out.below HBd.out)
       clear hvb6 hi6 HI6
       go_region_held3 (fun w' => w'.cell? ⟨w.heap.size,2,none⟩=some (.slice a l.length cap)) (first
           | with_reducible exact z2
           | with_reducible exact cell_later hB7 k2
           | with_reducible exact cell_later kd0 k2) (first
         | (go_at_call 85;((with_reducible refine (HAT.out w6.drew).mono ?_);rintro e w9 ⟨rfl,rfl⟩))
         | (go_at_call 72;((with_reducible refine (nputlisto_any (some ⟨g,0,none⟩) 5 cp (leB sq 4 ++ [0]) a l.length cap l w6.drew HI6d.out (by rw [List.length_append,HL4.out];decide) HLd.out).mono ?_);rintro e w7 ⟨a7,m7,rfl,hb7,hi7,ho7⟩;have hB7:Below w6.heap.size w6 w7:=kd0.trans (hb7.mono kd0.size);have hB07:Below w0.heap.size w0 w7:=HB6.out.trans (hB7.mono HB6.out.size);have ho7':∀ b off,a7=some ⟨b,off,none⟩→w0.heap.size≤b:=(fun b off he=>Nat.le_trans HBd.out.size (ho7 b off he));have hi7':IsB w7 a7 m7 m7 (StR.enc ⟨sq,false,l⟩):=(by rw [HE.out];exact hi7)))
         | (go_at_call 70;((with_reducible refine (HKEEP.out w0 HST.out w7 hB07 a7 m7 hi7' ho7').mono ?_);rintro e w8 ⟨rfl,ht8,hd8⟩;have m8:=ht8.heap (below_heap hB7 HVB6.out (lt_of_heap HVB6.out)) (show ¬ (w.heap.size=bd∨w.heap.size=bl) from (by have:=HLT.out;omega));have z2:w8.cell? ⟨w.heap.size,2,none⟩=some (.slice a l.length cap):=(by rw [cell_of_block m8];rfl)))
         | fail)
       all_goals
         have H8:=Lib.hid (And.intro (((Touch.of_below (S:=fun k=>k=bd∨k=bl) HB0.out).trans (Touch.of_below hB07)).trans ht8) hd8)
         clear hB7 hB07 ho7 ho7' hi7 hi7' hb7 ht8 hd8 m8 z2 HKEEP
         go_wp2_with fail
         go_ret
         rw [H2.out]
         exact ⟨rfl,H8.out.1,H8.out.2⟩
     | true =>
       go_wp2_with (first
         | (refine wpList_append_newB rfl (.tmp 34) (.tmp 35) rfl ⟨b4,o4,none⟩ 4 (leB sq 4) rfl (HI4.out _) (some ⟨w4.heap.size,0,none⟩) 1 1 [0] rfl (HF.out _) (by simp) (by rw [HL4.out];decide) ?_;intro g cp w5 ho5 hb5;have hB5:=(HBA.out 5).trans (hb5.mono (HBA.out 5).size);have g1':w5.cell? ⟨w.heap.size,1,none⟩=some (.bool true):=cell_later hB5 g1;have HO5:=Lib.hid (owns_low ho5 (HBA.out 5).size);have HBB5:=Lib.hid hB5;clear ho5 hb5 hB5;obtain ⟨y4,yf,yb,hb6,hi6,hgl⟩:=set4 HO5.out HL4.out)
         | fail)
       have hB6:Below w4.heap.size w4 (w5.setCell ⟨g,4,none⟩ (.int .u8 1)):=HBB5.out.trans (hb6.mono (Nat.le_refl _))
       have HVB6:=Lib.hid (below_heap hB6 HVB4.out (lt_of_heap HVB4.out))
       have HB6:=Lib.hid (HB4.out.trans (hB6.mono HB4.out.size))
       have HI6:Hid (IsB (w5.setCell ⟨g,4,none⟩ (.int .u8 1)) (some ⟨g,0,none⟩) 5 cp (leB sq 4 ++ [1])):=Lib.hid hi6
       clear HVB4 HB4 HBB5 HO5 HI4 HF HBA g1 g2 g1' hi6 hb6 hB6 y4 yf
       generalize (w5.setCell ⟨g,4,none⟩ (.int .u8 1))=w6 at HVB6 HB6 HI6 ⊢
       have hvb6:=HVB6.out
       have k2:w6.cell? ⟨w.heap.size,2,none⟩=some (.slice a l.length cap):=by rw [cell_of_block hvb6];rfl
       have kd0:=(Below.refl w6.heap.size w6).drew
       have hlt6:w.heap.size<w6.heap.size:=lt_of_heap hvb6
       have HBd:=Lib.hid (HB6.out.trans (kd0.mono HB6.out.size))
       have hi6:=HI6.out.below kd0
       have HI6d:=Lib.hid hi6
       have HLd:=Lib.hid (HI.out.below HBd.out)
       clear hvb6 hi6 HI6
       go_region_held3 (fun w' => w'.cell? ⟨w.heap.size,2,none⟩=some (.slice a l.length cap)) (first
           | with_reducible exact z2
           | with_reducible exact cell_later hB7 k2
           | with_reducible exact cell_later kd0 k2) (first
         | (go_at_call 85;((with_reducible refine (HAT.out w6.drew).mono ?_);rintro e w9 ⟨rfl,rfl⟩))
         | (go_at_call 72;((with_reducible refine (nputlisto_any (some ⟨g,0,none⟩) 5 cp (leB sq 4 ++ [1]) a l.length cap l w6.drew HI6d.out (by rw [List.length_append,HL4.out];decide) HLd.out).mono ?_);rintro e w7 ⟨a7,m7,rfl,hb7,hi7,ho7⟩;have hB7:Below w6.heap.size w6 w7:=kd0.trans (hb7.mono kd0.size);have hB07:Below w0.heap.size w0 w7:=HB6.out.trans (hB7.mono HB6.out.size);have ho7':∀ b off,a7=some ⟨b,off,none⟩→w0.heap.size≤b:=(fun b off he=>Nat.le_trans HBd.out.size (ho7 b off he));have hi7':IsB w7 a7 m7 m7 (StR.enc ⟨sq,true,l⟩):=(by rw [HE.out];exact hi7)))
         | (go_at_call 70;((with_reducible refine (HKEEP.out w0 HST.out w7 hB07 a7 m7 hi7' ho7').mono ?_);rintro e w8 ⟨rfl,ht8,hd8⟩;have m8:=ht8.heap (below_heap hB7 HVB6.out (lt_of_heap HVB6.out)) (show ¬ (w.heap.size=bd∨w.heap.size=bl) from (by have:=HLT.out;omega));have z2:w8.cell? ⟨w.heap.size,2,none⟩=some (.slice a l.length cap):=(by rw [cell_of_block m8];rfl)))
         | fail)
       all_goals
         have H8:=Lib.hid (And.intro (((Touch.of_below (S:=fun k=>k=bd∨k=bl) HB0.out).trans (Touch.of_below hB07)).trans ht8) hd8)
         clear hB7 hB07 ho7 ho7' hi7 hi7' hb7 ht8 hd8 m8 z2 HKEEP
         go_wp2_with fail
         go_ret
         rw [H2.out]
         exact ⟨rfl,H8.out.1,H8.out.2⟩
end Go.Proofs.YtgbikngicidbkaaGreatDoor
