/- The package stores: twin;conditions: those typed. -/
import Derived.Test.YtgbikngicidbkaaGreatDoorQGStGet
import Derived.Test.YtgbikngicidbkaaGreatDoorQGStPut
import Derived.Test.YtgbikngicidbkaaGreatDoorQGStOrd
import Derived.Test.YtgbikngicidbkaaGreatDoorQGSlotsGetGSlotsLaw2StOldP
import Derived.Test.YtgbikngicidbkaaGreatDoorQGStRec
import Derived.Test.YtgbikngicidbkaaGreatDoorQGIntsLeftI
import Derived.Deep.RegionLaw
import Derived.Test.YtgbikngicidbkaaGreatDoorQGStCGStCloStArg2
namespace Go.Proofs.YtgbikngicidbkaaGreatDoor
open Go.RowKit
set_option linter.unusedVariables false
set_option linter.unusedSimpArgs false
theorem okC_enc (c:StC) (h:c.may):okC c.enc=true:=by rw [okC_some (decC_enc c h)];exact (mayB_iff c).2 h
set_option maxRecDepth 100000 in
set_option maxHeartbeats 8000000 in
theorem twin_cfg (P:Nat→Prop) (x:StA) (c:StC) (w:World) (h:IsCf w P x c) (hmay:c.may) :
   Calls Tryz.prog 57 #[.agg (x.cells c.t).toArray] w fun e w' => ∃ y:StA,e=.returned (.agg (y.cells c.t).toArray)∧Below w.heap.size w w'∧IsCf w' (fun k=>w.heap.size≤k) y c∧CfO w.heap.size w' y c:=by
 obtain ⟨ra,rn,rc,sa,sn,sc,sv,aa,an,ac,ua,un,uc⟩:=x
 have HX:=Lib.hid h
 have hPUT:=fun (w:World) hh=>put_cfg P ⟨ra,rn,rc,sa,sn,sc,sv,aa,an,ac,ua,un,uc⟩ c w hh hmay
 unfold StA.cells at hPUT ⊢
 dsimp only at hPUT ⊢
 have HPUT:=Lib.hid hPUT
 clear hPUT h
 obtain ⟨hb0,m0,m1⟩:=alloc2_facts w (.cells #[.slice ra rn rc,.slice sa sn sc,.slice aa an ac,.slice ua un uc,.int .u64 (c.t:Int)] 27 (0,0)) (.cells #[.slice none 0 0,.slice none 0 0,.slice none 0 0,.slice none 0 0,.int .u64 0] 27 (0,0))
 have HC0:=Lib.hid (HX.out.below hb0)
 clear HX
 go_enter Tryz.func57,Tryz.ntmps57
 go_wp2_with fail
 generalize ((w.alloc (.cells #[.slice ra rn rc,.slice sa sn sc,.slice aa an ac,.slice ua un uc,.int .u64 (c.t:Int)] 27)).alloc (.cells #[.slice none 0 0,.slice none 0 0,.slice none 0 0,.slice none 0 0,.int .u64 0] 27))=w0 at hb0 m0 m1 HC0 ⊢
 have HB0:=Lib.hid hb0
 have HM0:=Lib.hid m0
 have HM1:=Lib.hid m1
 clear hb0 m0 m1
 go_wp2_with (first
   | (refine wpList_load_mid rfl 27 (.tmp 1) rfl w.heap.size 0 rfl [.slice ra rn rc,.slice sa sn sc,.slice aa an ac,.slice ua un uc,.int .u64 (c.t:Int)] _ (rangeAt_row HM0.out) Tryz.underlying27 rfl info_cfg ?_)
   | fail)
 refine (HPUT.out w0 HC0.out).mono ?_;rintro e w1 ⟨a,n,rfl,hb1,hi1,_⟩
 have H1:=Lib.hid (And.intro hb1 hi1)
 clear hb1 hi1
 go_wp2_with fail
 refine (get_cfg a n n c.enc w1 H1.out.2).mono ?_;rintro e w2 ⟨y,t,rfl,hb2,hg,hgo⟩
 have HGO:=Lib.hid (hgo c (decC_enc c hmay))
 clear hgo
 have HO:=Lib.hid (okC_enc c hmay)
 obtain ⟨ht,hg2⟩:=hg c (decC_enc c hmay)
 subst ht
 have HG:=Lib.hid hg2
 have HB2:=Lib.hid (H1.out.1.trans (hb2.mono H1.out.1.size))
 have HSZ:Hid (w.heap.size≤w1.heap.size):=Lib.hid (Nat.le_trans HB0.out.size H1.out.1.size)
 clear hb2 hg hg2
 obtain ⟨ra2,rn2,rc2,sa2,sn2,sc2,sv2,aa2,an2,ac2,ua2,un2,uc2⟩:=y
 unfold StA.cells
 dsimp only
 rw [HO.out]
 have hb3:Below w2.heap.size w2 (w2.alloc (.cells #[.slice ra2 rn2 rc2,.slice sa2 sn2 sc2,.slice aa2 an2 ac2,.slice ua2 un2 uc2,.int .u64 (c.t:Int)] 27)):=(Below.refl _ _).alloc (Nat.le_refl _) _
 have m3:=heap_new w2 (.cells #[.slice ra2 rn2 rc2,.slice sa2 sn2 sc2,.slice aa2 an2 ac2,.slice ua2 un2 uc2,.int .u64 (c.t:Int)] 27 (0,0))
 have m1:=below_heap hb3 (below_heap HB2.out HM1.out (lt_of_heap HM1.out)) (Nat.lt_of_lt_of_le (lt_of_heap HM1.out) HB2.out.size)
 have HG3:=Lib.hid (HG.out.below hb3)
 have HGO3:=Lib.hid (HGO.out.below hb3)
 clear HGO
 have HB3:=Lib.hid (HB2.out.trans (hb3.mono HB2.out.size))
 clear hb3
 have hcfg:∀ v ∈ [Value.slice ra2 rn2 rc2,.slice sa2 sn2 sc2,.slice aa2 an2 ac2,.slice ua2 un2 uc2,.int .u64 (c.t:Int)],v.oneCell'=true:=cfg_one _ _ _ _ _ _ _ _ _ _ _ _ _
 go_wp2_with (first
   | (refine wpList_load_mid rfl 27 (.tmp 3) rfl w2.heap.size 0 rfl [.slice ra2 rn2 rc2,.slice sa2 sn2 sc2,.slice aa2 an2 ac2,.slice ua2 un2 uc2,.int .u64 (c.t:Int)] _ (rangeAt_row m3) Tryz.underlying27 rfl info_cfg ?_)
   | (refine wpList_store_whole rfl 27 (.tmp 2) (.tmp 11) rfl (w.heap.size+1) [.slice ra2 rn2 rc2,.slice sa2 sn2 sc2,.slice aa2 an2 ac2,.slice ua2 un2 uc2,.int .u64 (c.t:Int)] _ _ m1 rfl rfl rfl info_cfg hcfg ?_;intro w4 ht4 hg4)
   | fail)
 refine bodyPost_ret (results_cell rfl _ _ (w.heap.size+1) 0 rfl [.slice ra2 rn2 rc2,.slice sa2 sn2 sc2,.slice aa2 an2 ac2,.slice ua2 un2 uc2,.int .u64 (c.t:Int)] _ (rangeAt_row hg4) Tryz.underlying27 rfl info_cfg) rfl ?_
 have HLT:w.heap.size+1<w0.heap.size:=lt_of_heap HM1.out
 have HW1:w0.heap.size≤w1.heap.size:=H1.out.1.size
 have HBB:Below w.heap.size w _:=HB0.out.trans (HB3.out.mono HB0.out.size)
 exact ⟨⟨ra2,rn2,rc2,sa2,sn2,sc2,sv2,aa2,an2,ac2,ua2,un2,uc2⟩,rfl,HBB.trans (ht4.below HBB.size (fun k hk e=>by omega)),(HG3.out.touch ht4 (fun k hk e=>by omega)).imp (fun k hk=>by have:=HSZ.out;omega),(HGO3.out.touch ht4 (fun k hk e=>by omega)).low HSZ.out⟩
/- The package stores: Make;conditions: those typed. -/
theorem mk_store {w:World} {x:StA} {c:StC} {bd bl:Nat} {D:Dsk} (hd:IsDisk w bd bl D) (hc:IsCf w (fun k => ¬ (k=bd∨k=bl)) x c) :
   IsStore (w.alloc (.cells (x.cells c.t ++ [Value.pointer (some ⟨bd,0,none⟩)]).toArray 111)) w.heap.size bd bl x c D:=by
 have hb:Below w.heap.size w (w.alloc (.cells (x.cells c.t ++ [Value.pointer (some ⟨bd,0,none⟩)]).toArray 111)):=(Below.refl _ _).alloc (Nat.le_refl _) _
 have:=hd.lt
 exact ⟨heap_new w _,hd.touch (Touch.of_below (S:=fun _=>False) hb) id id,hc.below hb,by omega⟩
set_option maxRecDepth 100000 in
set_option maxHeartbeats 8000000 in
theorem make_arg (P:Nat→Prop) (bd bl:Nat) (D:Dsk) (x:StA) (c:StC) (w:World) (h:IsDisk w bd bl D) (hc:IsCf w P x c) (hm:mayB c=false) :
   Calls Tryz.prog 9 #[.pointer (some ⟨bd,0,none⟩),.agg (x.cells c.t).toArray] w fun e w' => e=.returned (.tuple #[.pointer none,.int .i64 1])∧Below w.heap.size w w':=by
 obtain ⟨ra,rn,rc,sa,sn,sc,sv,aa,an,ac,ua,un,uc⟩:=x
 have hMAY:=fun w hc=>may_any P ⟨ra,rn,rc,sa,sn,sc,sv,aa,an,ac,ua,un,uc⟩ c w hc
 unfold StA.cells at hMAY ⊢
 dsimp only at hMAY ⊢
 have HMAY:=Lib.hid hMAY
 have hb0:Below w.heap.size w (w.alloc (.cells #[.slice ra rn rc,.slice sa sn sc,.slice aa an ac,.slice ua un uc,.int .u64 (c.t:Int)] 27)):=(Below.refl _ _).alloc (Nat.le_refl _) _
 have hv:=heap_new w (.cells #[.slice ra rn rc,.slice sa sn sc,.slice aa an ac,.slice ua un uc,.int .u64 (c.t:Int)] 27 (0,0))
 have HC:=Lib.hid (hc.below hb0)
 have HD:=Lib.hid (h.touch (Touch.of_below (S:=fun _=>False) hb0) id id)
 have hpos:=h.pos
 have HM:=Lib.hid hm
 clear hMAY h hc hm
 go_enter Tryz.func9,Tryz.ntmps9
 go_wp2_with fail
 generalize w.alloc (.cells #[.slice ra rn rc,.slice sa sn sc,.slice aa an ac,.slice ua un uc,.int .u64 (c.t:Int)] 27)=w0 at hb0 hv HC HD ⊢
 have HB0:=Lib.hid hb0
 have HV:=Lib.hid hv
 clear hb0 hv
 refine (len_disk bd bl D w0 HD.out).mono ?_;rintro e w1 ⟨rfl,rfl⟩
 have d0:((D.secs.length:Int) == 0)=false:=by rw [beq_eq_false_iff_ne];omega
 generalize D.secs.length=N at d0 hpos
 clear hpos
 go_wp2_with (first
   | (refine wpList_load_mid rfl 27 (.tmp 3) rfl w.heap.size 0 rfl [.slice ra rn rc,.slice sa sn sc,.slice aa an ac,.slice ua un uc,.int .u64 (c.t:Int)] _ (rangeAt_row HV.out) Tryz.underlying27 rfl info_cfg ?_)
   | fail)
 refine (HMAY.out w0 HC.out).mono ?_;rintro e w1 ⟨rfl,hb1⟩
 rw [HM.out]
 have HB1:=Lib.hid (HB0.out.trans (hb1.mono HB0.out.size))
 clear hb1
 go_wp2_with fail
 refine bodyPost_ret (results_tmp2 rfl _ _ _) rfl ?_
 exact ⟨rfl,HB1.out⟩
theorem put_01 (bd bl:Nat) (D:Dsk) (a:Option Addr) (n:Nat) (b:List UInt8) (k:Int) (w:World) (pI nI:Int) (hp:pI=((0:Nat):Int)) (hn:nI=((1:Nat):Int)) (h:IsDisk w bd bl D) (hb:IsB w a n n b) (hab:∀ x off,a=some ⟨x,off,none⟩→b≠[]→¬ (x=bd∨x=bl)) (hk:D.fine k) (hk2:k≤1000000000000000) :
   Calls Tryz.prog 55 #[.pointer (some ⟨bd,0,none⟩),.int .i64 pI,.int .u32 nI,.slice a n n] w fun e w' => e=.returned (.int .i64 (D.put ((0:Nat):Int) 1 b).1)∧Touch (fun k=>k=bd∨k=bl) w w'∧IsDisk w' bd bl (D.put ((0:Nat):Int) 1 b).2:=by
 subst hp hn
 exact put_any bd bl D ((0:Nat):Int) 1 a n n b k w h hb hab hk hk2 (by decide)
def MakeQ (w:World) (bd bl:Nat) (D:Dsk) (c:StC) (e:Ending) (w':World):Prop :=
 (roomC D c.s.length=false∧e=.returned (.tuple #[.pointer none,.int .i64 3])∧Below w.heap.size w w') ∨
 (roomC D c.s.length=true∧0<(D.get ((0:Nat):Int)).1∧e=.returned (.tuple #[.pointer none,.int .i64 11])∧Below w.heap.size w w') ∨
 (roomC D c.s.length=true∧(D.get ((0:Nat):Int)).1=0∧(D.put ((0:Nat):Int) 1 c.enc).1≠0∧e=.returned (.tuple #[.pointer none,.int .i64 (D.put ((0:Nat):Int) 1 c.enc).1])∧Touch (fun k=>k=bd∨k=bl) w w'∧IsDisk w' bd bl (D.put ((0:Nat):Int) 1 c.enc).2) ∨
 (roomC D c.s.length=true∧(D.get ((0:Nat):Int)).1=0∧(D.put ((0:Nat):Int) 1 c.enc).1=0∧∃ (bs:Nat) (y:StA),e=.returned (.tuple #[.pointer (some ⟨bs,0,none⟩),.int .i64 0])∧Touch (fun k=>k=bd∨k=bl) w w'∧IsStore w' bs bd bl y c (D.put ((0:Nat):Int) 1 c.enc).2∧w.heap.size≤bs∧IsCf w' (fun k=>w.heap.size≤k) y c∧CfO w.heap.size w' y c)
set_option maxRecDepth 100000 in
set_option maxHeartbeats 16000000 in
theorem make_may (P:Nat→Prop) (bd bl:Nat) (D:Dsk) (x:StA) (c:StC) (k:Int) (w:World) (h:IsDisk w bd bl D) (hc:IsCf w P x c) (hP:∀ k,P k→¬ (k=bd∨k=bl)) (hm:mayB c=true) (hk:D.fine k) (hk2:k≤1000000000000000) :
   Calls Tryz.prog 9 #[.pointer (some ⟨bd,0,none⟩),.agg (x.cells c.t).toArray] w fun e w' => MakeQ w bd bl D c e w':=by
 obtain ⟨ra,rn,rc,sa,sn,sc,sv,aa,an,ac,ua,un,uc⟩:=x
 obtain rfl:sn=c.s.length:=hc.s.1
 have hMAY:=fun w hc=>may_any P ⟨ra,rn,rc,sa,c.s.length,sc,sv,aa,an,ac,ua,un,uc⟩ c w hc
 have hPUT:=fun w hc=>put_cfg P ⟨ra,rn,rc,sa,c.s.length,sc,sv,aa,an,ac,ua,un,uc⟩ c w hc ((mayB_iff c).1 hm)
 have hTW:=fun w hc=>twin_cfg P ⟨ra,rn,rc,sa,c.s.length,sc,sv,aa,an,ac,ua,un,uc⟩ c w hc ((mayB_iff c).1 hm)
 unfold StA.cells at hMAY hPUT hTW ⊢
 dsimp only at hMAY hPUT hTW ⊢
 have HMAY:=Lib.hid hMAY
 have HPUT:=Lib.hid hPUT
 have HTW:=Lib.hid hTW
 have hb0:Below w.heap.size w (w.alloc (.cells #[.slice ra rn rc,.slice sa c.s.length sc,.slice aa an ac,.slice ua un uc,.int .u64 (c.t:Int)] 27)):=(Below.refl _ _).alloc (Nat.le_refl _) _
 have hv:=heap_new w (.cells #[.slice ra rn rc,.slice sa c.s.length sc,.slice aa an ac,.slice ua un uc,.int .u64 (c.t:Int)] 27 (0,0))
 have HC:=Lib.hid (hc.below hb0)
 have HD:=Lib.hid (h.touch (Touch.of_below (S:=fun _=>False) hb0) id id)
 have hpos:=h.pos
 have HM:=Lib.hid hm
 have hs8:c.s.length≤100000:=by have:=((mayB_iff c).1 hm).s.2;omega
 have HROOM:=Lib.hid (fun w h=>stcap_any bd bl D c.s.length w h hs8)
 have HLT:=Lib.hid h.lt
 clear hMAY hPUT hTW h hc hm hs8
 go_enter Tryz.func9,Tryz.ntmps9
 go_wp2_with fail
 generalize w.alloc (.cells #[.slice ra rn rc,.slice sa c.s.length sc,.slice aa an ac,.slice ua un uc,.int .u64 (c.t:Int)] 27)=w0 at hb0 hv HC HD ⊢
 have HB0:=Lib.hid hb0
 have HV:=Lib.hid hv
 clear hb0 hv
 refine (len_disk bd bl D w0 HD.out).mono ?_;rintro e w1 ⟨rfl,rfl⟩
 have d0:((D.secs.length:Int) == 0)=false:=by rw [beq_eq_false_iff_ne];omega
 generalize D.secs.length=N at d0 hpos
 clear hpos
 go_wp2_with (first
   | (refine wpList_load_mid rfl 27 (.tmp 3) rfl w.heap.size 0 rfl [.slice ra rn rc,.slice sa c.s.length sc,.slice aa an ac,.slice ua un uc,.int .u64 (c.t:Int)] _ (rangeAt_row HV.out) Tryz.underlying27 rfl info_cfg ?_)
   | fail)
 refine (HMAY.out w0 HC.out).mono ?_;rintro e w1 ⟨rfl,hb1⟩
 rw [HM.out]
 have HB1:=Lib.hid (HB0.out.trans (hb1.mono HB0.out.size))
 have HV1:=Lib.hid (below_heap hb1 HV.out (lt_of_heap HV.out))
 have HC1:=Lib.hid (HC.out.below hb1)
 have HD1:=Lib.hid (HD.out.touch (Touch.of_below (S:=fun _=>False) hb1) id id)
 have f1:w1.cell? ⟨w.heap.size,1,none⟩=some (.slice sa c.s.length sc):=by rw [cell_of_block HV1.out];rfl
 clear hb1 HB0 HV HC HD HMAY
 go_wp2_with fail
 refine (HROOM.out w1 HD1.out).mono ?_;rintro e w2 ⟨rfl,hb2⟩
 have HB2:=Lib.hid (HB1.out.trans (hb2.mono HB1.out.size))
 have HV2:=Lib.hid (below_heap hb2 HV1.out (lt_of_heap HV1.out))
 have HC2:=Lib.hid (HC1.out.below hb2)
 have HD2:=Lib.hid (HD1.out.touch (Touch.of_below (S:=fun _=>False) hb2) id id)
 clear hb2 HB1 HV1 HC1 HD1 f1
 cases hroom:roomC D c.s.length with
 | false =>
   go_wp2_with fail
   refine bodyPost_ret (results_tmp2 rfl _ _ _) rfl ?_
   exact .inl ⟨hroom,rfl,HB2.out⟩
 | true =>
   have HRM:=Lib.hid hroom
   clear hroom
   go_wp2_with fail
   refine (stconfig_any w2).mono ?_;rintro e w3 ⟨rfl,rfl⟩
   go_wp2_with fail
   refine (get_i bd bl D 0 _ w2 (by first | rfl | simp) HD2.out).mono ?_;rintro e w3 ⟨a3,rfl,hb3,_,_⟩
   generalize hq:(D.get ((0:Nat):Int)).1=q
   generalize (D.get ((0:Nat):Int)).2.1.length=q1
   generalize (D.get ((0:Nat):Int)).2.2=q2
   have HQ:=Lib.hid hq
   have HB3:=Lib.hid (HB2.out.trans (hb3.mono HB2.out.size))
   have hv3:=below_heap hb3 HV2.out (lt_of_heap HV2.out)
   have HV3:=Lib.hid hv3
   have HC3:=Lib.hid (HC2.out.below hb3)
   have HD3:=Lib.hid (HD2.out.touch (Touch.of_below (S:=fun _=>False) hb3) id id)
   clear hb3 HB2 HV2 HC2 HD2 hq
   by_cases hq0:0<q
   · have d1:decide ((0:Int)<(q:Int))=true:=decide_eq_true (by omega)
     have d2:decide (0<q)=true:=decide_eq_true hq0
     have HQ0:Hid (0<(D.get ((0:Nat):Int)).1):=Lib.hid (by rw [HQ.out];exact hq0)
     clear hq0
     go_wp2_with fail
     refine bodyPost_ret (results_tmp2 rfl _ _ _) rfl ?_
     exact .inr (.inl ⟨HRM.out,HQ0.out,rfl,HB3.out⟩)
   · have d1:decide ((0:Int)<(q:Int))=false:=decide_eq_false (by omega)
     have d2:decide (0<q)=false:=decide_eq_false hq0
     have HQ0:Hid ((D.get ((0:Nat):Int)).1=0):=Lib.hid (by rw [HQ.out];omega)
     clear hq0
     go_wp2_with fail
     have f0:w3.cell? ⟨w.heap.size,0,none⟩=some (.slice ra rn rc):=by rw [cell_of_block hv3];rfl
     have f1:w3.cell? ⟨w.heap.size,1,none⟩=some (.slice sa c.s.length sc):=by rw [cell_of_block hv3];rfl
     have f2:w3.cell? ⟨w.heap.size,2,none⟩=some (.slice aa an ac):=by rw [cell_of_block hv3];rfl
     have f3:w3.cell? ⟨w.heap.size,3,none⟩=some (.slice ua un uc):=by rw [cell_of_block hv3];rfl
     have f4:w3.cell? ⟨w.heap.size,4,none⟩=some (.int .u64 (c.t:Int)):=by rw [cell_of_block hv3];rfl
     have hd0:=(Below.refl w3.heap.size w3).drew
     have HPD:=Lib.hid (fun (W:World) (hb:Below w3.heap.size w3 W) (a:Option Addr) (m:Nat) (hi:IsB W a m m c.enc) (ho:∀ b off,a=some ⟨b,off,none⟩→w3.heap.size≤b)=>put_01 bd bl D a m c.enc k W 0 1 rfl rfl (HD3.out.touch (Touch.of_below (S:=fun _=>False) hb) id id) hi (fun y off hy _=>by have:=ho y off hy;have:=HD3.out.lt;omega) hk hk2)
     obtain ⟨R,hR⟩:∃ R,R=D.put ((0:Nat):Int) 1 c.enc:=⟨_,rfl⟩
     have HR:=Lib.hid hR
     rw [← hR] at HPD
     clear hR hk hk2 hv3
     go_region_held3 (fun w' => w'.cell? ⟨w.heap.size,0,none⟩=some (.slice ra rn rc)∧w'.cell? ⟨w.heap.size,1,none⟩=some (.slice sa c.s.length sc)∧w'.cell? ⟨w.heap.size,2,none⟩=some (.slice aa an ac)∧w'.cell? ⟨w.heap.size,3,none⟩=some (.slice ua un uc)∧w'.cell? ⟨w.heap.size,4,none⟩=some (.int .u64 (c.t:Int))) (first
         | with_reducible exact ⟨z0,z1,z2,z3,z4⟩
         | with_reducible exact ⟨cell_later hB4 f0,cell_later hB4 f1,cell_later hB4 f2,cell_later hB4 f3,cell_later hB4 f4⟩
         | with_reducible exact ⟨cell_later hd0 f0,cell_later hd0 f1,cell_later hd0 f2,cell_later hd0 f3,cell_later hd0 f4⟩) (first
       | (go_at_call 54;((with_reducible refine (stconfig_any _).mono ?_);rintro e w9 ⟨rfl,rfl⟩))
       | (go_at_call 56;((with_reducible refine (HPUT.out w3.drew (HC3.out.below hd0)).mono ?_);rintro e w4 ⟨a4,m4,rfl,hb4,hi4,ho4⟩;have hB4:Below w3.heap.size w3 w4:=hd0.trans (hb4.mono hd0.size);have ho4':∀ b off,a4=some ⟨b,off,none⟩→w3.heap.size≤b:=ho4))
       | (go_at_call 55;((with_reducible refine (HPD.out w4 hB4 a4 m4 hi4 ho4').mono ?_);rintro e w5 ⟨rfl,ht5,hd5⟩;have m5:=ht5.heap (below_heap hB4 HV3.out (lt_of_heap HV3.out)) (show ¬ (w.heap.size=bd∨w.heap.size=bl) from (by have:=HLT.out;omega));have z0:w5.cell? ⟨w.heap.size,0,none⟩=some (.slice ra rn rc):=(by rw [cell_of_block m5];rfl);have z1:w5.cell? ⟨w.heap.size,1,none⟩=some (.slice sa c.s.length sc):=(by rw [cell_of_block m5];rfl);have z2:w5.cell? ⟨w.heap.size,2,none⟩=some (.slice aa an ac):=(by rw [cell_of_block m5];rfl);have z3:w5.cell? ⟨w.heap.size,3,none⟩=some (.slice ua un uc):=(by rw [cell_of_block m5];rfl);have z4:w5.cell? ⟨w.heap.size,4,none⟩=some (.int .u64 (c.t:Int)):=(by rw [cell_of_block m5];rfl)))
       | fail)
     all_goals
       have H5:=Lib.hid (And.intro ((Touch.of_below (S:=fun k=>k=bd∨k=bl) hB4).trans ht5) hd5)
       have HM5:=Lib.hid m5
       clear hi4 ho4 ho4' m5 z0 z1 z2 z3 z4 hB4 hb4 ht5 hd5 HPD HPUT f0 f1 f2 f3 f4 hd0
       have HT5:Hid (Touch (fun k=>k=bd∨k=bl) w w5):=Lib.hid ((Touch.of_below HB3.out).trans H5.out.1)
       have HD5:Hid (IsDisk w5 bd bl R.2):=Lib.hid H5.out.2
       have HC5:=Lib.hid (HC3.out.touch H5.out.1 hP)
       clear H5 HC3 HD3 HB3 HV3 hP
       obtain ⟨r1,hr1⟩:∃ r1,R.1=r1:=⟨_,rfl⟩
       rw [hr1]
       by_cases hr0:r1=0
       · subst hr0
         have HR1:=Lib.hid hr1
         clear hr1
         go_wp2_with (first
           | (refine wpList_load_mid rfl 27 (.tmp 3) rfl w.heap.size 0 rfl [.slice ra rn rc,.slice sa c.s.length sc,.slice aa an ac,.slice ua un uc,.int .u64 (c.t:Int)] _ (rangeAt_row HM5.out) Tryz.underlying27 rfl info_cfg ?_)
           | fail)
         refine (HTW.out w5 HC5.out).mono ?_;rintro e w6 ⟨y,rfl,hb6,hc6,ho6⟩
         have HO6:Hid (CfO w.heap.size w6 y c):=Lib.hid (ho6.low HT5.out.size)
         clear ho6
         have HC6:Hid (IsCf w6 (fun k=>w.heap.size≤k) y c):=Lib.hid (hc6.imp (fun k hk=>Nat.le_trans HT5.out.size hk))
         have HT6:=Lib.hid (HT5.out.trans (Touch.of_below hb6))
         have HD6:=Lib.hid (HD5.out.touch (Touch.of_below (S:=fun _=>False) hb6) id id)
         clear hb6 hc6 HT5 HD5 HC5 HM5 HTW
         have hst:=mk_store HD6.out (HC6.out.imp (Q:=fun k => ¬ (k=bd∨k=bl)) (fun k hk=>by have:=HLT.out;omega))
         have hbA:Below w6.heap.size w6 (w6.alloc (.cells (y.cells c.t ++ [Value.pointer (some ⟨bd,0,none⟩)]).toArray 111)):=(Below.refl _ _).alloc (Nat.le_refl _) _
         have HEND:Hid (Touch (fun k=>k=bd∨k=bl) w (w6.alloc (.cells (y.cells c.t ++ [Value.pointer (some ⟨bd,0,none⟩)]).toArray 111))∧IsStore (w6.alloc (.cells (y.cells c.t ++ [Value.pointer (some ⟨bd,0,none⟩)]).toArray 111)) w6.heap.size bd bl y c R.2∧IsCf (w6.alloc (.cells (y.cells c.t ++ [Value.pointer (some ⟨bd,0,none⟩)]).toArray 111)) (fun k=>w.heap.size≤k) y c∧CfO w.heap.size (w6.alloc (.cells (y.cells c.t ++ [Value.pointer (some ⟨bd,0,none⟩)]).toArray 111)) y c):=Lib.hid ⟨HT6.out.trans (Touch.of_below hbA),hst,HC6.out.below hbA,HO6.out.below hbA⟩
         have HSZ:Hid (w.heap.size≤w6.heap.size):=Lib.hid HT6.out.size
         clear hst hbA HT6 HD6 HC6 HO6
         obtain ⟨ra2,rn2,rc2,sa2,sn2,sc2,sv2,aa2,an2,ac2,ua2,un2,uc2⟩:=y
         unfold StA.cells at HEND
         dsimp only at HEND ⊢
         go_wp2_with fail
         refine bodyPost_ret (results_tmp2 rfl _ _ _) rfl ?_
         refine .inr (.inr (.inr ⟨HRM.out,HQ0.out,by rw [← HR.out];exact HR1.out,w6.heap.size,⟨ra2,rn2,rc2,sa2,sn2,sc2,sv2,aa2,an2,ac2,ua2,un2,uc2⟩,rfl,?_⟩))
         rw [← HR.out]
         exact ⟨HEND.out.1,HEND.out.2.1,HSZ.out,HEND.out.2.2⟩
       · have dr:(r1 == 0)=false:=by rw [beq_eq_false_iff_ne];exact hr0
         have dr2:(r1 != 0)=true:=by simp [bne,dr]
         have HR0:=Lib.hid (And.intro hr0 hr1)
         clear hr0 hr1
         go_wp2_with fail
         refine bodyPost_ret (results_tmp2 rfl _ _ _) rfl ?_
         refine .inr (.inr (.inl ⟨HRM.out,HQ0.out,?_⟩))
         rw [← HR.out,HR0.out.2]
         exact ⟨HR0.out.1,rfl,HT5.out,HD5.out⟩
/- Layer 20: what a new store has;what lives does;conditions: those typed. -/
theorem madeN_all (n:Nat) (c:StC) (h:c.may) (hn:12*(2+c.s.length)≤n):∃ D',(newD n).put ((0:Nat):Int) 1 c.enc=(0,D')∧StInv c D' 1∧(D'.left = -1∧0<D'.writes)∧phD c.s.length D'=(0,[],true)∧∀ i,i<c.s.length→rcD c.r.length D' i=(⟨0,false,[]⟩,true):=by
 obtain ⟨D',h1,h2,h3⟩:=StInv.madeN n c h hn
 have hb:=c.enc_length h
 have h8:=h.s
 obtain ⟨a1,a2⟩:=put_full (newD_good n) 0 1 c.enc (by rw [newD_len];omega) hb (by decide) (by rw [newD_newest];decide) (newD_room n _)
 rw [h1] at a2
 have hw:D'.writes=0+((secsOf c.enc+1:Nat):Int):=a2.writes
 refine ⟨D',h1,h2,⟨h3,by omega⟩,?_⟩
 have e:∀ k,k≠0→newestW D' (12*k)=((0,[]),12*k):=fun k hk=>by
   rw [newestW_same (D:=newD n) (12*k) (fun x hx=>a2.far _ (by omega)),newD_newest]
 refine ⟨?_,fun i hi => ?_⟩
 · rw [h2.ph_is,e 1 (by decide)];rfl
 · rw [h2.rc_is i hi,e (2+i) (by omega)];rfl
theorem makeQ_new {w w':World} {bd bl n:Nat} {c:StC} {e:Ending} (h:c.may) (hn:12*(2+c.s.length)≤n) (hq:MakeQ w bd bl (newD n) c e w'):∃ (bs:Nat) (y:StA) (D':Dsk),e=.returned (.tuple #[.pointer (some ⟨bs,0,none⟩),.int .i64 0])∧Touch (fun k=>k=bd∨k=bl) w w'∧IsStore w' bs bd bl y c D'∧w.heap.size≤bs∧IsCf w' (fun k=>w.heap.size≤k) y c∧StInv c D' 1∧(D'.left = -1∧0<D'.writes)∧phD c.s.length D'=(0,[],true)∧∀ i,i<c.s.length→rcD c.r.length D' i=(⟨0,false,[]⟩,true):=by
 obtain ⟨D',h1,h2,h3,h4,h5⟩:=madeN_all n c h hn
 have hroom:roomC (newD n) c.s.length=true:=by unfold roomC;rw [newD_len];exact decide_eq_true hn
 have hget:((newD n).get ((0:Nat):Int)).1=0:=by rw [get_is 0 (by rw [newD_len];omega),newD_newest]
 rcases hq with ⟨q1,_⟩ | ⟨_,q2,_⟩ | ⟨_,_,q3,_⟩ | ⟨_,_,_,bs,y,q4,q5,q6,q7,q8,_⟩
 · rw [hroom] at q1;cases q1
 · omega
 · rw [h1] at q3;exact absurd rfl q3
 · rw [h1] at q6;exact ⟨bs,y,D',q4,q5,q6,q7,q8,h2,h3,h4,h5⟩
theorem makeQ_done {w w':World} {bd bl:Nat} {c c0:StC} {D:Dsk} {j:Nat} {e:Ending} (h:StInv c0 D j) (hr:12*(2+c.s.length)≤D.secs.length) (hq:MakeQ w bd bl D c e w'):e=.returned (.tuple #[.pointer none,.int .i64 11])∧Below w.heap.size w w':=by
 have hroom:roomC D c.s.length=true:=by unfold roomC;exact decide_eq_true hr
 have hget:(D.get ((0:Nat):Int)).1=1:=by rw [get_is 0 (by omega),h.cfg]
 rcases hq with ⟨q1,_⟩ | ⟨_,_,q2,q3⟩ | ⟨_,q3,_⟩ | ⟨_,q3,_⟩
 · rw [hroom] at q1;cases q1
 · exact ⟨q2,q3⟩
 · omega
 · omega
theorem StInv.lt12 {c:StC} {D:Dsk} {j:Nat} (h:StInv c D j):(D.get ((12:Nat):Int)).1<4294967296:=by
 have h1:=h.get 1 (by omega)
 rw [show (12*1:Nat)=12 from rfl] at h1
 rw [h1]
 have:=h.num
 dsimp only;omega
theorem StInv.ltR {c:StC} {D:Dsk} {j:Nat} (h:StInv c D j) (i:Nat) (hi:i<c.s.length):(D.get ((12*(2+i):Nat):Int)).1<4294967296:=by
 rw [h.get (2+i) (by omega)]
 have:=h.numR i hi
 dsimp only;omega
def someC:StC:=⟨[1,2],[[1],[2],[3]],[8],[9],100⟩
theorem someC_may:someC.may:=⟨by decide,by decide,by decide,by decide,by decide,by decide⟩
theorem lives_plain {D:Dsk} (h:StInv someC D 1) (hl:D.left = -1) (hp:phD someC.s.length D=(0,[],true)) (hr:∀ i,i<someC.s.length→rcD someC.r.length D i=(⟨0,false,[]⟩,true)) :
   turnD someC.s.length D 2 [0,1,2]=(8,D)∧∃ D2,turnD someC.s.length D 1 []=(0,D2)∧StInv someC D2 2∧(setD someC.s.length someC.r.length D2 ((2:Nat):Int) ⟨1,true,[3,4]⟩).1=0:=by
 have ht:turnsC someC.s.length 2 [0,1,2]=true:=by decide
 have ht1:turnsC someC.s.length 1 []=true:=by decide
 refine ⟨by unfold turnD;rw [if_neg (by rw [ht];decide),hp];rfl,?_⟩
 obtain ⟨e,D2,h1,h2,h3,h4⟩:=h.turn 1 [] (free_room h.blown hl 2)
 rcases h4 with ⟨rfl,_,_,_,h5⟩ | ⟨_,_,⟨h5,_⟩ | ⟨_,h5,_⟩⟩
 · refine ⟨D2,h1,h2,?_⟩
   have hl2:=h5 hl
   obtain ⟨e,D3,g1,g2,g3,g4,g5⟩:=h2.set ((2:Nat):Int) ⟨1,true,[3,4]⟩ (by decide) (free_room h2.blown hl2 2)
   rcases g5 with ⟨rfl,_⟩ | ⟨_,_,⟨g,_⟩ | ⟨_,_,g,_⟩ | ⟨_,_,_,g,_⟩⟩
   · rw [g1]
   · exact absurd g (by decide)
   · exact absurd g (by decide)
   · have:=h3 2 (by decide)
     have e2:rcD someC.r.length D2 (((2:Nat):Int).toNat)=(⟨0,false,[]⟩,true):=by
       show rcD someC.r.length D2 2=_
       rw [this,hr 2 (by decide)]
     rw [e2] at g
     exact absurd g (by decide)
 · rw [ht1] at h5;cases h5
 · rw [hp] at h5;exact absurd h5 (by decide)
/- The package stores: Open;conditions: those typed. -/
set_option maxRecDepth 100000 in
set_option maxHeartbeats 4000000 in
theorem open_none (bd bl:Nat) (D:Dsk) (w:World) (h:IsDisk w bd bl D) (h0:(D.get ((0:Nat):Int)).1=0) :
   Calls Tryz.prog 21 #[.pointer (some ⟨bd,0,none⟩)] w fun e w' => e=.returned (.tuple #[.pointer none,.int .i64 7])∧Below w.heap.size w w':=by
 have HD:=Lib.hid h
 have H0:=Lib.hid h0
 have d0:((D.secs.length:Int) == 0)=false:=by have:=h.pos;rw [beq_eq_false_iff_ne];omega
 clear h h0
 go_enter Tryz.func21,Tryz.ntmps21
 go_wp2_with fail
 refine (len_disk bd bl D w HD.out).mono ?_;rintro e w1 ⟨rfl,rfl⟩
 generalize D.secs.length=N at d0
 go_wp2_with fail
 refine (stconfig_any w).mono ?_;rintro e w3 ⟨rfl,rfl⟩
 go_wp2_with fail
 refine (get_i bd bl D 0 _ w (by first | rfl | simp) HD.out).mono ?_;rintro e w3 ⟨a3,rfl,hb3,_,_⟩
 rw [H0.out]
 generalize (D.get ((0:Nat):Int)).2.1.length=q1
 generalize (D.get ((0:Nat):Int)).2.2=q2
 go_wp2_with fail
 refine bodyPost_ret (results_tmp2 rfl _ _ _) rfl ?_
 exact ⟨rfl,hb3⟩
/- Layer 20: some,made,lives;conditions: those typed. -/
theorem allocs_at:∀ (os:List Obj) (w:World),w.heap.size≤(os.foldl World.alloc w).heap.size∧Below w.heap.size w (os.foldl World.alloc w)∧∀ i (h:i<os.length),(os.foldl World.alloc w).heap[w.heap.size+i]?=some os[i]
 | [],w=>⟨Nat.le_refl _,Below.refl _ _,fun i h=>by simp at h⟩
 | o :: os,w=>by
   obtain ⟨h1,h2,h3⟩:=allocs_at os (w.alloc o)
   have hb:Below w.heap.size w (w.alloc o):=(Below.refl _ _).alloc (Nat.le_refl _) _
   have hs:(w.alloc o).heap.size=w.heap.size+1:=by simp
   refine ⟨by simp only [List.foldl_cons];omega,hb.trans (h2.mono (by omega)),fun i h => ?_⟩
   simp only [List.foldl_cons]
   cases i with
   | zero=>exact below_heap (B:=w.heap.size+1) (h2.mono (by omega)) (heap_new w o) (by omega)
   | succ i =>
     have:=h3 i (by simpa using h)
     rw [hs] at this
     rw [show w.heap.size+(i+1)=w.heap.size+1+i by omega,this]
     rfl
theorem isB_block {W:World} {b:Nat} {C:Array Value} {e:TypeId} {fz:Nat × Nat} (l:List UInt8) (h:W.heap[b]?=some (.cells C e fz)) (hC:C=(l.map fun x=>Value.int .u8 x.toNat).toArray) (n c:Nat) (hn:n=l.length) (hc:c=l.length) (hm:l.length≤maxLen):IsB W (some ⟨b,0,none⟩) n c l:=by
 subst hC
 refine ⟨hn,by omega,by omega,.inr ⟨_,_,rfl,lt_of_heap h,fun i hi => ?_⟩⟩
 rw [Nat.zero_add,cell_of_block h]
 simp [hi]
theorem isI_block {W:World} {b:Nat} {C:Array Value} {e:TypeId} {fz:Nat × Nat} (l:List Int) (h:W.heap[b]?=some (.cells C e fz)) (hC:C=(l.map fun x=>Value.int .i64 x).toArray) (n c:Nat) (hn:n=l.length) (hc:c=l.length) (hm:l.length≤maxLen):IsI W (some ⟨b,0,none⟩) n c l:=by
 subst hC
 refine ⟨hn,by omega,by omega,.inr ⟨_,_,rfl,lt_of_heap h,fun i hi => ?_⟩⟩
 rw [Nat.zero_add,cell_of_block h]
 simp [hi]
def someOs (n:Nat):List Obj:=[.cells #[.slice none 0 0,.slice none 0 0,.slice none 0 0,.slice none 0 0,.int .u64 0] 27 (0,0),.cells #[.int .i64 1,.int .i64 2] 3 (0,0),.cells #[.int .u8 1] 5 (0,0),.cells #[.int .u8 2] 5 (0,0),.cells #[.int .u8 3] 5 (0,0),
 .cells #[.slice (some ⟨n+1+1,0,none⟩) 1 1,.slice (some ⟨n+1+1+1,0,none⟩) 1 1,.slice (some ⟨n+1+1+1+1,0,none⟩) 1 1] 24 (0,0),.cells #[.int .u8 8] 5 (0,0),.cells #[.int .u8 9] 5 (0,0)]
def someA (n:Nat):StA:=⟨some ⟨n+1,0,none⟩,2,2,some ⟨n+1+1+1+1+1,0,none⟩,3,3,[.slice (some ⟨n+1+1,0,none⟩) 1 1,.slice (some ⟨n+1+1+1,0,none⟩) 1 1,.slice (some ⟨n+1+1+1+1,0,none⟩) 1 1],some ⟨n+1+1+1+1+1+1,0,none⟩,1,1,some ⟨n+1+1+1+1+1+1+1,0,none⟩,1,1⟩
theorem some_laid (w:World):Below w.heap.size w ((someOs w.heap.size).foldl World.alloc w)∧((someOs w.heap.size).foldl World.alloc w).heap[w.heap.size]?=some (.cells #[.slice none 0 0,.slice none 0 0,.slice none 0 0,.slice none 0 0,.int .u64 0] 27 (0,0)) ∧
   IsCf ((someOs w.heap.size).foldl World.alloc w) (fun k=>w.heap.size<k) (someA w.heap.size) someC:=by
 obtain ⟨h1,h2,h3⟩:=allocs_at (someOs w.heap.size) w
 generalize hW:(someOs w.heap.size).foldl World.alloc w=W at h1 h2 h3
 have k1:=h3 1 (show 1<8 from by decide)
 have k2:=h3 2 (show 2<8 from by decide)
 have k3:=h3 3 (show 3<8 from by decide)
 have k4:=h3 4 (show 4<8 from by decide)
 have k5:=h3 5 (show 5<8 from by decide)
 have k6:=h3 6 (show 6<8 from by decide)
 have k7:=h3 7 (show 7<8 from by decide)
 have hB:∀ (b:Nat) (x:UInt8),w.heap.size<b→W.heap[b]?=some (.cells #[.int .u8 x.toNat] 5 (0,0))→IsBp W (fun k=>w.heap.size<k) (some ⟨b,0,none⟩) 1 1 [x]:=fun b x hb h =>
   ⟨isB_block [x] h rfl 1 1 rfl rfl (show 1≤maxLen from by decide),fun b' off he _=>by cases he;exact hb⟩
 refine ⟨h2,h3 0 (show 0<8 from by decide),⟨⟨isI_block [1,2] k1 rfl 2 2 rfl rfl (by decide),fun b off he _=>by cases he;exact Nat.lt_succ_self _⟩,⟨rfl,(show 3≤3 from by decide),(show 3≤maxLen from by decide),⟨rfl,fun i hi => ?_⟩,.inr ⟨_,0,rfl,by omega,lt_of_heap k5,fun i hi => ?_⟩⟩,hB _ 8 (by omega) k6,hB _ 9 (by omega) k7,by decide⟩⟩
 · match i,hi with
   | 0,_=>exact ⟨_,_,_,rfl,hB _ 1 (by omega) k2⟩
   | 1,_=>exact ⟨_,_,_,rfl,hB _ 2 (by omega) k3⟩
   | 2,_=>exact ⟨_,_,_,rfl,hB _ 3 (by omega) k4⟩
 · have hc:=cell_of_block k5
   rw [Nat.zero_add]
   match i,hi with
   | 0,_=>exact hc 0
   | 1,_=>exact hc 1
   | 2,_=>exact hc 2
set_option maxHeartbeats 4000000 in
theorem some_any (w:World):Calls Tryz.prog 47 #[] w fun e w' => e=.returned (.agg ((someA w.heap.size).cells someC.t).toArray)∧Below w.heap.size w w'∧IsCf w' (fun k=>w.heap.size≤k) (someA w.heap.size) someC:=by
 obtain ⟨h1,h2,h3⟩:=some_laid w
 have HC:=Lib.hid h3
 have HB:=Lib.hid h1
 have HV:=Lib.hid h2
 clear h1 h2 h3
 go_enter Tryz.func47,Tryz.ntmps47
 go_wp2_with (first
   | (refine wpList_store_whole rfl 27 (.tmp 0) (.tmp 8) rfl w.heap.size [.slice (some ⟨w.heap.size+1,0,none⟩) 2 2,.slice (some ⟨w.heap.size+1+1+1+1+1,0,none⟩) 3 3,.slice (some ⟨w.heap.size+1+1+1+1+1+1,0,none⟩) 1 1,.slice (some ⟨w.heap.size+1+1+1+1+1+1+1,0,none⟩) 1 1,.int .u64 100] _ _ HV.out rfl rfl rfl info_cfg (cfg_one _ _ _ _ _ _ _ _ _ _ _ _ _) ?_;intro w4 ht4 hg4)
   | fail)
 refine bodyPost_ret (results_cell rfl _ _ w.heap.size 0 rfl [.slice (some ⟨w.heap.size+1,0,none⟩) 2 2,.slice (some ⟨w.heap.size+1+1+1+1+1,0,none⟩) 3 3,.slice (some ⟨w.heap.size+1+1+1+1+1+1,0,none⟩) 1 1,.slice (some ⟨w.heap.size+1+1+1+1+1+1+1,0,none⟩) 1 1,.int .u64 100] _ (rangeAt_row hg4) Tryz.underlying27 rfl info_cfg) rfl ?_
 exact ⟨rfl,HB.out.trans (ht4.below HB.out.size (fun k hk e=>by omega)),(HC.out.touch ht4 (fun k hk e=>by omega)).imp (fun k hk=>Nat.le_of_lt hk)⟩
/- Layer 20: lives;conditions: those typed. -/
set_option maxRecDepth 100000 in
set_option maxHeartbeats 16000000 in
theorem lives_any (w:World):Calls Tryz.prog 5 #[] w fun e w' => e=.returned (.bool true)∧Below w.heap.size w w':=by
 go_enter Tryz.func5,Tryz.ntmps5
 go_wp2_with fail
 refine (new_disk 60 60 w rfl (by decide) (by decide)).mono ?_;rintro e w1 ⟨bd,bl,rfl,hb1,g1,g2,hd1⟩
 have HB1:=Lib.hid hb1
 have HG:Hid (w.heap.size≤bd∧w.heap.size≤bl):=Lib.hid ⟨g1,g2⟩
 have HD1:=Lib.hid hd1
 clear hb1 g1 g2 hd1
 go_wp2_with fail
 refine (open_none bd bl (newD 60) w1 HD1.out (by rw [get_is 0 (by rw [newD_len];decide),newD_newest])).mono ?_;rintro e w2 ⟨rfl,hb2⟩
 have HB2:=Lib.hid (HB1.out.trans (hb2.mono HB1.out.size))
 have HD2:=Lib.hid (HD1.out.touch (Touch.of_below (S:=fun _=>False) hb2) id id)
 clear hb2 HD1 HB1
 go_wp2_with fail
 refine (some_any w2).mono ?_;rintro e w3 ⟨rfl,hb3,hc3⟩
 have HB3:=Lib.hid (HB2.out.trans (hb3.mono HB2.out.size))
 have HD3:=Lib.hid (HD2.out.touch (Touch.of_below (S:=fun _=>False) hb3) id id)
 have hlt2:=HD2.out.lt
 have HC3:=Lib.hid hc3
 have HPP:=Lib.hid (fun k (hk:w2.heap.size≤k)=>(show ¬ (k=bd∨k=bl) from by omega))
 clear hb3 hc3 HD2 HB2 hlt2
 go_wp2_with fail
 refine ((make_may (fun k=>w2.heap.size≤k) bd bl (newD 60) (someA w2.heap.size) someC 0 w3 HD3.out HC3.out HPP.out (by decide) (newD_fine 60) (by decide)).mono (fun e w' hq=>makeQ_new someC_may (by decide) hq)).mono ?_;rintro e w4 ⟨bs,y,D,rfl,ht4,hs4,hbs,hc4,r1,⟨r2,-⟩,r3,r4⟩
 have HB4:=Lib.hid (HB3.out.trans (ht4.below HB3.out.size (fun k hk e=>by have:=HG.out;omega)))
 have HS4:=Lib.hid hs4
 have HR:=Lib.hid (And.intro r1 (And.intro r2 (And.intro r3 r4)))
 have HBS:Hid (w.heap.size≤bs):=Lib.hid (Nat.le_trans HB3.out.size hbs)
 clear ht4 hs4 hbs hc4 r1 r2 r3 r4 HB3 HD3 HC3 HPP
 go_wp2_with fail
 refine (some_any w4).mono ?_;rintro e w5 ⟨rfl,hb5,hc5⟩
 have HB5:=Lib.hid (HB4.out.trans (hb5.mono HB4.out.size))
 have HS5:=Lib.hid (HS4.out.below hb5)
 have hlt4:=HS4.out.lt
 have HC5:=Lib.hid hc5
 have HPP:=Lib.hid (fun k (hk:w4.heap.size≤k)=>(show ¬ (k=bd∨k=bl) from by omega))
 clear hb5 hc5 HS4 HB4 hlt4
 go_wp2_with fail
 refine ((make_may (fun k=>w4.heap.size≤k) bd bl D (someA w4.heap.size) someC 6 w5 HS5.out.disk HC5.out HPP.out (by decide) HR.out.1.fine (by decide)).mono (fun e w' hq=>makeQ_done HR.out.1 HR.out.1.len hq)).mono ?_;rintro e w6 ⟨rfl,hb6⟩
 have HB6:=Lib.hid (HB5.out.trans (hb6.mono HB5.out.size))
 have HS6:=Lib.hid (HS5.out.below hb6)
 clear hb6 HB5 HS5 HC5 HPP
 go_wp2_with fail
 refine (phase_pub bs bd bl y someC D w6 HS6.out).mono ?_;rintro e w7 ⟨rfl,hb7⟩
 rw [HR.out.2.2.1]
 have HB7:=Lib.hid (HB6.out.trans (hb7.mono HB6.out.size))
 have HS7:=Lib.hid (HS6.out.below hb7)
 obtain ⟨p1,D2,p2,p3,p4⟩:=lives_plain HR.out.1 HR.out.2.1 HR.out.2.2.1 HR.out.2.2.2
 have HP1:=Lib.hid p1
 have HP2:=Lib.hid p2
 have HP3:=Lib.hid p3
 have HP4:=Lib.hid p4
 clear hb7 HB6 HS6 p1 p2 p3 p4
 go_wp2_with fail
 have hba:∀ o,Below w7.heap.size w7 (w7.alloc o):=fun o=>(Below.refl _ _).alloc (Nat.le_refl _) o
 refine (turn_pub bs bd bl y someC D 2 _ 3 3 [0,1,2] 6 _ (HS7.out.below (hba _)) (IsI.fresh w7 [0,1,2] _ _ _ rfl 3 3 rfl rfl (by decide)) (by decide) (by decide) HR.out.1.fine (by decide) (HR.out.1.lt12)).mono ?_;rintro e w8 ⟨rfl,ht8,hd8⟩
 rw [HP1.out] at hd8 ⊢
 have HS8:Hid (IsStore w8 bs bd bl y someC D):=Lib.hid ((HS7.out.below (hba _)).put ht8 hd8)
 have HB8:Hid (Below w.heap.size w w8):=Lib.hid ((HB7.out.trans ((hba _).mono HB7.out.size)).trans (ht8.below (HB7.out.trans ((hba _).mono HB7.out.size)).size (fun k hk e=>by have:=HG.out;omega)))
 clear ht8 hd8 hba HS7 HB7
 go_wp2_with fail
 refine (turn_pub bs bd bl y someC D 1 none 0 0 [] 6 _ HS8.out (IsI.nil _) (by decide) (by decide) HR.out.1.fine (by decide) (HR.out.1.lt12)).mono ?_;rintro e w9 ⟨rfl,ht9,hd9⟩
 rw [HP2.out] at hd9 ⊢
 have HS9:Hid (IsStore w9 bs bd bl y someC D2):=Lib.hid (HS8.out.put ht9 hd9)
 have HB9:Hid (Below w.heap.size w w9):=Lib.hid (HB8.out.trans (ht9.below HB8.out.size (fun k hk e=>by have:=HG.out;omega)))
 clear ht9 hd9 HS8 HB8
 go_wp2_with fail
 refine (set_bad bs bd bl y someC D2 3 1 false none 0 0 _ HS9.out (.inr (by decide))).mono ?_;rintro e wA ⟨rfl,hbA⟩
 have HSA:=Lib.hid (HS9.out.below hbA)
 have HBA:=Lib.hid (HB9.out.trans (hbA.mono HB9.out.size))
 clear hbA HS9 HB9
 go_wp2_with fail
 have hba:∀ o,Below wA.heap.size wA (wA.alloc o):=fun o=>(Below.refl _ _).alloc (Nat.le_refl _) o
 refine (set_ok bs bd bl y someC D2 2 1 true _ 2 2 [3,4] 12 _ (HSA.out.below (hba _)) (IsI.fresh wA [3,4] _ _ _ rfl 2 2 rfl rfl (by decide)) (by decide) (by decide) (by decide) (by decide) HP3.out.fine (by decide) (HP3.out.ltR 2 (by decide))).mono ?_;rintro e wB ⟨rfl,htB,hdB⟩
 rw [HP4.out]
 have HBB:Hid (Below w.heap.size w wB):=Lib.hid ((HBA.out.trans ((hba _).mono HBA.out.size)).trans (htB.below (HBA.out.trans ((hba _).mono HBA.out.size)).size (fun k hk e=>by have:=HG.out;omega)))
 clear htB hdB hba
 go_wp2_with fail
 go_ret
 exact ⟨rfl,HBB.out⟩
/- The package stores: a store that is not there;conditions: those typed. -/
theorem info_mkt:(Tryz.prog.info? 84).map (·.size)=some 3:=by kernel_rfl
theorem mkt_one (ra sa aa:Option Addr) (rn rc sn sc an ac:Nat):∀ v ∈ [Value.slice ra rn rc,.slice sa sn sc,.slice aa an ac],v.oneCell'=true:=by intro v hv;simp at hv;rcases hv with rfl | rfl | rfl <;> rfl
theorem set3_same {w:World} {b:Nat} {u0 u1 u2 v0 v1 v2:Value} {T:TypeId} (h:w.heap[b]?=some (.cells #[u0,u1,u2] T (0,0))) :
   (((w.setCell ⟨b,0,none⟩ v0).setCell ⟨b,1,none⟩ v1).setCell ⟨b,2,none⟩ v2).heap[b]?=some (.cells #[v0,v1,v2] T (0,0))∧Touch (fun k=>k=b) w (((w.setCell ⟨b,0,none⟩ v0).setCell ⟨b,1,none⟩ v1).setCell ⟨b,2,none⟩ v2):=by
 have h0:(w.setCell ⟨b,0,none⟩ v0).heap[b]?=some (.cells #[v0,u1,u2] T (0,0)):=by rw [heap_setCell_same _ b 0 _ _ _ h];rfl
 have h1:((w.setCell ⟨b,0,none⟩ v0).setCell ⟨b,1,none⟩ v1).heap[b]?=some (.cells #[v0,v1,u2] T (0,0)):=by rw [heap_setCell_same _ b 1 _ _ _ h0];rfl
 exact ⟨by rw [heap_setCell_same _ b 2 _ _ _ h1];rfl,((Touch.setCell (Touch.refl (fun k=>k=b) w) ⟨b,0,none⟩ v0 (.inl rfl)).setCell ⟨b,1,none⟩ v1 (.inl rfl)).setCell ⟨b,2,none⟩ v2 (.inl rfl)⟩
def allR (items:Nat) (D:Dsk) (n:Nat):Bool:=(List.range n).all fun i=>(rcD items D i).2
theorem allR_zero (items:Nat) (D:Dsk):allR items D 0=true:=rfl
theorem allR_succ (items:Nat) (D:Dsk) (n:Nat):allR items D (n+1)=(allR items D n && (rcD items D n).2):=by
 unfold allR
 rw [List.range_succ,List.all_append]
 simp
def openC (D:Dsk):Except Int StC :=
 if (D.get ((0:Nat):Int)).1=0 then .error 7 else match decC (D.get ((0:Nat):Int)).2.1 with
 | none=>.error 4
 | some c=>if mayB c=false then .error 4 else if roomC D c.s.length=false then .error 3 else if ((phD c.s.length D).2.2 && allR c.r.length D c.s.length)=true then .ok c else .error 4
def OpenQ (w:World) (bd bl:Nat) (D:Dsk) (e:Ending) (w':World):Prop :=
 (∃ k,openC D=.error k∧e=.returned (.tuple #[.pointer none,.int .i64 k])) ∨
 (∃ c,openC D=.ok c∧∃ (bs:Nat) (y:StA),e=.returned (.tuple #[.pointer (some ⟨bs,0,none⟩),.int .i64 0])∧IsStore w' bs bd bl y c D∧w.heap.size≤bs∧IsCf w' (fun k=>w.heap.size≤k) y c∧CfO w.heap.size w' y c)
structure OpJ (w:World) (bs bd bl b1:Nat) (y:StA) (c:StC) (D:Dsk) (k:Nat) (q:Bool) (W:World):Prop where
 qe:q=((phD c.s.length D).2.2 && allR c.r.length D k)
 bel:Below w.heap.size w W
 st:IsStore W bs bd bl y c D
 cf:IsCf W (fun k=>w.heap.size≤k) y c
 co:CfO w.heap.size W y c
set_option maxRecDepth 100000 in
set_option maxHeartbeats 8000000 in
theorem open_any (bd bl:Nat) (D:Dsk) (w:World) (h:IsDisk w bd bl D) :
   Calls Tryz.prog 21 #[.pointer (some ⟨bd,0,none⟩)] w fun e w' => OpenQ w bd bl D e w'∧Below w.heap.size w w':=by
 have HD:=Lib.hid h
 have d0:((D.secs.length:Int) == 0)=false:=by have:=h.pos;rw [beq_eq_false_iff_ne];omega
 clear h
 go_enter Tryz.func21,Tryz.ntmps21
 go_wp2_with fail
 refine (len_disk bd bl D w HD.out).mono ?_;rintro e w1 ⟨rfl,rfl⟩
 obtain ⟨N,hN⟩:∃ N,D.secs.length=N:=⟨_,rfl⟩
 rw [hN] at d0 ⊢
 clear hN
 go_wp2_with fail
 refine (stconfig_any w).mono ?_;rintro e w3 ⟨rfl,rfl⟩
 go_wp2_with fail
 refine (get_i bd bl D 0 _ w (by first | rfl | simp) HD.out).mono ?_;rintro e w3 ⟨a3,rfl,hb3,hi3,_⟩
 obtain ⟨⟨n0,b0,e0⟩,hg⟩:∃ g,D.get ((0:Nat):Int)=g:=⟨_,rfl⟩
 rw [hg] at hi3 ⊢
 dsimp only at hi3 ⊢
 have HG:=Lib.hid hg
 have HB3:=Lib.hid hb3
 have HI3:=Lib.hid hi3
 have HD3:=Lib.hid (HD.out.touch (Touch.of_below (S:=fun _=>False) hb3) id id)
 clear hb3 hi3 hg
 by_cases hn0:n0=0
 · subst hn0
   go_wp2_with fail
   refine bodyPost_ret (results_tmp2 rfl _ _ _) rfl ?_
   exact ⟨.inl ⟨7,by unfold openC;rw [HG.out,if_pos rfl],rfl⟩,HB3.out⟩
 have dn:((n0:Int) == 0)=false:=by rw [beq_eq_false_iff_ne];omega
 have dn2:(n0 == 0)=false:=by rw [beq_eq_false_iff_ne];exact hn0
 have HN0:=Lib.hid hn0
 clear hn0
 go_wp2_with fail
 refine (get_cfg a3 b0.length b0.length b0 w3 HI3.out).mono ?_;rintro e w4 ⟨y,t,rfl,hb4,hgot,hgo⟩
 have HGO:=Lib.hid hgo
 clear hgo
 have HB4:=Lib.hid (HB3.out.trans (hb4.mono HB3.out.size))
 have HD4:=Lib.hid (HD3.out.touch (Touch.of_below (S:=fun _=>False) hb4) id id)
 have HGOT:=Lib.hid hgot
 have HS34:Hid (w.heap.size≤w3.heap.size):=Lib.hid HB3.out.size
 clear hb4 hgot
 obtain ⟨ra,rn,rc,sa,sn,sc,sv,aa,an,ac,ua,un,uc⟩:=y
 cases hok:okC b0 with
 | false =>
   have HE:Hid (openC D=.error 4):=Lib.hid (by
     unfold openC
     rw [HG.out]
     dsimp only
     rw [if_neg HN0.out]
     unfold okC at hok
     cases hd:decC b0 with
     | none=>rfl
     | some c =>
       rw [hd] at hok
       dsimp only at hok ⊢
       rw [if_pos hok])
   clear hok
   unfold StA.cells
   dsimp only
   go_wp2_with fail
   refine bodyPost_ret (results_tmp2 rfl _ _ _) rfl ?_
   refine ⟨.inl ⟨4,HE.out,rfl⟩,?_⟩
   first | exact HB4.out | exact HB4.out.alloc HB4.out.size _
 | true =>
   obtain ⟨c,hdec,hmay⟩:∃ c,decC b0=some c∧mayB c=true:=by
     unfold okC at hok
     cases hd:decC b0 with
     | none=>rw [hd] at hok;cases hok
     | some c=>rw [hd] at hok;exact ⟨c,rfl,hok⟩
   obtain ⟨rfl,hcf⟩:=HGOT.out c hdec
   have HE:Hid (openC D=if roomC D c.s.length=false then .error 3 else if ((phD c.s.length D).2.2 && allR c.r.length D c.s.length)=true then .ok c else .error 4):=Lib.hid (by
     unfold openC
     rw [HG.out]
     dsimp only
     rw [if_neg HN0.out,hdec]
     dsimp only
     rw [if_neg (by rw [hmay];decide)])
   have HM:=Lib.hid ((mayB_iff c).1 hmay)
   obtain rfl:sn=c.s.length:=hcf.s.1
   have HCF:=Lib.hid hcf
   have HCO:=Lib.hid (HGO.out c hdec)
   clear hdec hmay hok hcf HGOT HGO
   unfold StA.cells
   dsimp only
   obtain ⟨hbA,m0,m1⟩:=alloc2_facts w4 (.cells #[.slice ra rn rc,.slice sa c.s.length sc,.slice aa an ac,.slice ua un uc,.int .u64 (c.t:Int)] 27 (0,0)) (.cells #[.slice ra rn rc,.slice sa c.s.length sc,.slice aa an ac,.slice ua un uc,.int .u64 (c.t:Int),.pointer (some ⟨bd,0,none⟩)] 111 (0,0))
   have HV:=Lib.hid (heap_new w4 (.cells #[.slice ra rn rc,.slice sa c.s.length sc,.slice aa an ac,.slice ua un uc,.int .u64 (c.t:Int)] 27 (0,0)))
   go_wp2_with (first
     | (refine wpList_load_mid rfl 27 (.tmp 7) rfl w4.heap.size 0 rfl [.slice ra rn rc,.slice sa c.s.length sc,.slice aa an ac,.slice ua un uc,.int .u64 (c.t:Int)] _ (rangeAt_row HV.out) Tryz.underlying27 rfl info_cfg ?_)
     | fail)
   generalize ((w4.alloc (.cells #[.slice ra rn rc,.slice sa c.s.length sc,.slice aa an ac,.slice ua un uc,.int .u64 (c.t:Int)] 27 (0,0))).alloc (.cells #[.slice ra rn rc,.slice sa c.s.length sc,.slice aa an ac,.slice ua un uc,.int .u64 (c.t:Int),.pointer (some ⟨bd,0,none⟩)] 111 (0,0)))=W at hbA m0 m1 ⊢
   have hsz:w.heap.size≤w4.heap.size:=HB4.out.size
   have hlt:=HD4.out.lt
   have HLT:Hid (w.heap.size≤w4.heap.size):=Lib.hid hsz
   have HDL:Hid (bd<w4.heap.size∧bl<w4.heap.size):=Lib.hid hlt
   have hdw:bd<w.heap.size∧bl<w.heap.size:=HD.out.lt
   have HST:Hid (IsStore W (w4.heap.size+1) bd bl ⟨ra,rn,rc,sa,c.s.length,sc,sv,aa,an,ac,ua,un,uc⟩ c D):=Lib.hid
     ⟨m1,HD4.out.touch (Touch.of_below (S:=fun _=>False) hbA) id id,(HCF.out.below hbA).imp (fun k hk=>by have:=HS34.out;omega),by omega⟩
   have HB5:=Lib.hid (HB4.out.trans (hbA.mono HB4.out.size))
   have HCF5:=Lib.hid ((HCF.out.below hbA).imp (Q:=fun k=>w.heap.size≤k) (fun k hk=>Nat.le_trans HS34.out hk))
   have HCO5:=Lib.hid ((HCO.out.below hbA).low HS34.out)
   have HM0:=Lib.hid m0
   have HR:=Lib.hid (stcap_any bd bl D c.s.length W HST.out.disk (by have:=HM.out.s;omega))
   clear hsz hlt hdw m0 m1 hbA HB4 HB3 HI3 HD3 HD4 HCF HCO HV HG
   refine HR.out.mono ?_;rintro e w5 ⟨rfl,hb5⟩
   have HB6:=Lib.hid (HB5.out.trans (hb5.mono HB5.out.size))
   have HST6:=Lib.hid (HST.out.below hb5)
   have HCF6:=Lib.hid (HCF5.out.below hb5)
   have HCO6:=Lib.hid (HCO5.out.below hb5)
   have HM6:=Lib.hid (below_heap hb5 HM0.out (lt_of_heap HM0.out))
   clear hb5 HR HB5 HST HCF5 HCO5 HM0
   cases hroom:roomC D c.s.length with
   | false =>
     have HE2:Hid (openC D=.error 3):=Lib.hid (by rw [HE.out,if_pos hroom])
     clear hroom
     go_wp2_with fail
     refine bodyPost_ret (results_tmp2 rfl _ _ _) rfl ?_
     exact ⟨.inl ⟨3,HE2.out,rfl⟩,HB6.out⟩
   | true =>
   have HE2:Hid (openC D=if ((phD c.s.length D).2.2 && allR c.r.length D c.s.length)=true then .ok c else .error 4):=Lib.hid (by rw [HE.out,if_neg (by rw [hroom];decide)])
   clear hroom HE
   go_wp2_with fail
   refine (phase_any (w4.heap.size+1) bd bl _ c D w5 HST6.out).mono ?_;rintro e w6 ⟨a6,rfl,hb6,_⟩
   have m6:=below_heap hb6 HM6.out (lt_of_heap HM6.out)
   have HBX:Hid (w4.heap.size<w5.heap.size):=Lib.hid (lt_of_heap HM6.out)
   have HJ:Hid (OpJ w (w4.heap.size+1) bd bl w4.heap.size ⟨ra,rn,rc,sa,c.s.length,sc,sv,aa,an,ac,ua,un,uc⟩ c D 0 (phD c.s.length D).2.2 w6):=Lib.hid
     ⟨by rw [allR_zero,Bool.and_true],HB6.out.trans (hb6.mono HB6.out.size),HST6.out.below hb6,HCF6.out.below hb6,HCO6.out.below hb6⟩
   have f1:w6.cell? ⟨w4.heap.size,1,none⟩=some (.slice sa c.s.length sc):=by rw [cell_of_block m6];rfl
   clear hb6 m6 HB6 HST6 HCF6 HCO6 HM6 HBX
   obtain ⟨⟨ph,pl,ok0⟩,hph⟩:∃ p,phD c.s.length D=p:=⟨_,rfl⟩
   rw [hph] at HJ ⊢
   dsimp only at HJ ⊢
   have HPH:=Lib.hid hph
   clear hph
   go_wp2_with fail
   obtain ⟨NS,hNS⟩:∃ NS,NS=c.s.length:=⟨_,rfl⟩
   have HNS:=Lib.hid hNS
   have h8:c.s.length≤8:=HM.out.s.2
   have hr8:c.r.length≤1000000:=by have:=HM.out.r.2.1;omega
   clear hNS
   go_loopw [52,8] (fun i s wr => ∃ k:Nat,∃ q:Bool,k≤c.s.length∧i=.int .i64 k∧s=.bool q∧Hid (OpJ w (w4.heap.size+1) bd bl w4.heap.size ⟨ra,rn,rc,sa,c.s.length,sc,sv,aa,an,ac,ua,un,uc⟩ c D k q wr)) (fun i _ _=>NS - (intOf i).toNat)
   case atStart=>exact ⟨0,ok0,Nat.zero_le _,rfl,rfl,HJ⟩
   case round =>
     clear HJ
     obtain ⟨k,q,hk,rfl,rfl,HJ⟩:=hrel
     by_cases hlt:k<c.s.length
     · have HKL:=Lib.hid hlt
       go_wp2_with fail
       refine (record_any (w4.heap.size+1) bd bl _ c D k wr HJ.out.st (by omega) hr8).mono ?_;rintro e w7 ⟨a7,rfl,hb7,_⟩
       obtain ⟨⟨⟨sq,st,l⟩,okr⟩,hrr⟩:∃ r,rcD c.r.length D k=r:=⟨_,rfl⟩
       rw [hrr]
       dsimp only
       have hba:Below wr.heap.size wr (w7.alloc (.cells #[.int .u32 (sq:Int),.bool st,.slice a7 l.length l.length] 60 (0,0))):=hb7.alloc hb7.size _
       have HJ2:Hid (OpJ w (w4.heap.size+1) bd bl w4.heap.size ⟨ra,rn,rc,sa,c.s.length,sc,sv,aa,an,ac,ua,un,uc⟩ c D (k+1) (q && okr) (w7.alloc (.cells #[.int .u32 (sq:Int),.bool st,.slice a7 l.length l.length] 60 (0,0)))):=Lib.hid
         ⟨by rw [allR_succ,HJ.out.qe,hrr,Bool.and_assoc],HJ.out.bel.trans (hba.mono HJ.out.bel.size),HJ.out.st.below hba,HJ.out.cf.below hba,HJ.out.co.below hba⟩
       clear hb7 hba hrr HJ f1
       cases q with
       | true =>
         go_wp2_with fail
         go_roundw
         case rel=>exact ⟨k+1,_,by omega,by go_num,rfl,HJ2⟩
         case measure=>have:=HNS.out;simp [intOf];omega
       | false =>
         go_wp2_with fail
         go_roundw
         case rel=>exact ⟨k+1,false,by omega,by go_num,rfl,HJ2⟩
         case measure=>have:=HNS.out;simp [intOf];omega
     · have hkk:k=c.s.length:=by omega
       subst hkk
       have HQ:=Lib.hid HJ.out.qe
       cases q with
       | true =>
         go_wp2_with fail
         refine bodyPost_ret (results_tmp2 rfl _ _ _) rfl ?_
         exact ⟨.inr ⟨c,by rw [HE2.out,if_pos HQ.out.symm],w4.heap.size+1,_,rfl,HJ.out.st,by have:=HLT.out;omega,HJ.out.cf,HJ.out.co⟩,HJ.out.bel⟩
       | false =>
         go_wp2_with fail
         refine bodyPost_ret (results_tmp2 rfl _ _ _) rfl ?_
         exact ⟨.inl ⟨4,by rw [HE2.out,if_neg (by rw [← HQ.out];decide)],rfl⟩,HJ.out.bel⟩
theorem IsStore.cfgAt {w:World} {bs bd bl:Nat} {x:StA} {c:StC} {D:Dsk} (h:IsStore w bs bd bl x c D):w.rangeAt bs 0 (x.cells c.t):=by
 have h1:=h.cells
 rw [show x.cells c.t ++ [Value.pointer (some ⟨bd,0,none⟩)]=[] ++ (x.cells c.t ++ [Value.pointer (some ⟨bd,0,none⟩)]) from rfl] at h1
 exact rangeAt_mid h1 (by rfl)
theorem StA.one' (y:StA) (t:Nat):∀ v ∈ y.cells t,v.oneCell'=true:=cfg_one _ _ _ _ _ _ _ _ _ _ _ _ _
set_option maxRecDepth 100000 in
set_option maxHeartbeats 4000000 in
theorem config_pub (bs bd bl:Nat) (x:StA) (c:StC) (D:Dsk) (w:World) (h:IsStore w bs bd bl x c D) (hmay:c.may) :
   Calls Tryz.prog 29 #[.pointer (some ⟨bs,0,none⟩)] w fun e w' => ∃ y:StA,e=.returned (.tuple #[.agg (y.cells c.t).toArray,.int .i64 0])∧Below w.heap.size w w'∧IsCf w' (fun k=>w.heap.size≤k) y c∧CfO w.heap.size w' y c:=by
 have hb0:Below w.heap.size w (w.alloc (.cells #[.slice none 0 0,.slice none 0 0,.slice none 0 0,.slice none 0 0,.int .u64 0] 27)):=(Below.refl _ _).alloc (Nat.le_refl _) _
 have hv2:=heap_new w (.cells #[.slice none 0 0,.slice none 0 0,.slice none 0 0,.slice none 0 0,.int .u64 0] 27 (0,0))
 have HS:=Lib.hid (h.below hb0)
 have HMAY:=Lib.hid hmay
 clear h hmay
 go_enter Tryz.func29,Tryz.ntmps29
 go_wp2_with fail
 generalize w.alloc (.cells #[.slice none 0 0,.slice none 0 0,.slice none 0 0,.slice none 0 0,.int .u64 0] 27)=w0 at hb0 hv2 HS ⊢
 refine (there_any bs bd bl x c D w0 HS.out).mono ?_;rintro e w1 ⟨rfl,rfl⟩
 have HB0:=Lib.hid hb0
 have HV:=Lib.hid hv2
 clear hb0 hv2
 go_wp2_with (first
   | (refine wpList_load_mid rfl 27 (.tmp 11) rfl bs 0 rfl (x.cells c.t) _ HS.out.cfgAt Tryz.underlying27 rfl info_cfg ?_)
   | fail)
 refine (twin_cfg _ x c w0 HS.out.cfg HMAY.out).mono ?_;rintro e w2 ⟨y,rfl,hb2,hc2,ho2⟩
 have HC2:=Lib.hid hc2
 have HO2:=Lib.hid ho2
 have HSZ:Hid (w.heap.size<w0.heap.size):=Lib.hid (lt_of_heap HV.out)
 have HB2:=Lib.hid (HB0.out.trans (hb2.mono HB0.out.size))
 have HV2:=Lib.hid (below_heap hb2 HV.out (lt_of_heap HV.out))
 clear hb2 hc2 ho2 HV HB0
 go_wp2_with (first
   | (refine wpList_store_whole rfl 27 (.tmp 2) (.tmp 13) rfl w.heap.size (y.cells c.t) _ _ HV2.out rfl rfl rfl info_cfg (StA.one' _ _) ?_;intro w4 ht4 hg4)
   | fail)
 refine bodyPost_ret (results_cell_tmp rfl _ _ w.heap.size 0 rfl (y.cells c.t) _ (rangeAt_row hg4) Tryz.underlying27 rfl info_cfg) rfl ?_
 have h1:=HSZ.out
 exact ⟨y,rfl,HB2.out.trans (ht4.below HB2.out.size (fun k hk e=>by omega)),(HC2.out.touch ht4 (fun k hk e=>by omega)).imp (fun k hk=>by omega),(HO2.out.touch ht4 (fun k hk e=>by omega)).low (by omega)⟩
theorem isBB_cells2 {w:World} {P:Nat→Prop} {a:Option Addr} {n c:Nat} {vs:List Value} {L:List (List UInt8)} (h:IsBBp w P a n c vs L) (k:Nat) (hk:k<L.length):∃ b off x z,a=some ⟨b,off,none⟩∧b<w.heap.size∧w.cell? ⟨b,off+k,none⟩=some (.slice x L[k].length z):=by
 obtain ⟨h0,h1,h2,hv,hc⟩:=h
 rcases hc with h0 | ⟨b,off,rfl,_,hlt,hc⟩
 · rw [h0] at hk;simp at hk
 · obtain ⟨x,y,z,h3,h4⟩:=hv.2 k hk
   have hkv:k<vs.length:=by rw [hv.1];exact hk
   rw [List.getElem?_eq_getElem hkv] at h3
   have:=hc k hkv
   rw [Option.some.inj h3,h4.1.1] at this
   exact ⟨b,off,x,z,rfl,hlt,this⟩
def ssum:List (List UInt8)→Nat
 | []=>0
 | x :: L=>x.length / 10+ssum L
def asum:List AcV→Nat
 | []=>0
 | x :: L=>4+x.r.n+x.on+x.bn / 40+asum L
theorem ssum_snoc (L:List (List UInt8)) (x:List UInt8):ssum (L ++ [x])=ssum L+x.length / 10:=by
 induction L with
 | nil=>simp [ssum]
 | cons y L ih=>simp only [List.cons_append,ssum,ih];omega
theorem asum_snoc (L:List AcV) (x:AcV):asum (L ++ [x])=asum L+(4+x.r.n+x.on+x.bn / 40):=by
 induction L with
 | nil=>simp [asum]
 | cons y L ih=>simp only [List.cons_append,asum,ih];omega
theorem ssum_le (L:List (List UInt8)) (h:∀ x ∈ L,x.length≤1048576):ssum L≤L.length*104858:=by
 induction L with
 | nil=>simp [ssum]
 | cons y L ih =>
   have h1:=h y List.mem_cons_self
   have h2:=ih fun x hx=>h x (List.mem_cons_of_mem _ hx)
   simp only [ssum,List.length_cons]
   omega
def AcSm (x:AcV):Prop:=x.r.n≤1048576∧x.on≤1048576∧x.bn≤1048576
theorem asum_le (L:List AcV) (h:∀ x ∈ L,AcSm x):asum L≤L.length*2200000:=by
 induction L with
 | nil=>simp [asum]
 | cons y L ih =>
   obtain ⟨h1,h3,h4⟩:=h y List.mem_cons_self
   have h2:=ih fun x hx=>h x (List.mem_cons_of_mem _ hx)
   simp only [asum,List.length_cons]
   omega
theorem asum_len (L:List AcV):4*L.length≤asum L:=by
 induction L with
 | nil=>simp [asum]
 | cons y L ih=>simp only [asum,List.length_cons];omega
theorem asum_mem (L:List AcV) (x:AcV) (hx:x ∈ L):4+x.r.n+x.on+x.bn / 40≤asum L:=by
 induction L with
 | nil=>cases hx
 | cons y L ih =>
   simp only [asum]
   rcases List.mem_cons.1 hx with rfl | hx
   · omega
   · have:=ih hx;omega
def grtN (c:StC) (L:List AcV):Nat:=c.r.length+c.s.length+c.a.length / 10+c.u.length / 10+ssum c.s+asum L
structure CfSm (c:StC):Prop where
 r:c.r.length≤1048576
 s:c.s.length≤1048576
 a:c.a.length≤1048576
 u:c.u.length≤1048576
 e:∀ l ∈ c.s,l.length≤1048576
set_option maxRecDepth 100000 in
set_option maxHeartbeats 8000000 in
theorem great_is (P:Nat→Prop) (x:StA) (c:StC) (la:Option Addr) (ln lc:Nat) (L:List AcV) (w:World) (hc:IsCf w P x c) (hL:IsRows AcV.cells 10 w la ln lc L) (hm:L.length≤1048576) (hcm:CfSm c) (hs:∀ x ∈ L,AcSm x) :
   Calls Tryz.prog 4 #[.agg (x.cells c.t).toArray,.slice la ln lc] w fun e w' => e=.returned (.bool (decide (250<grtN c L)))∧Below w.heap.size w w':=by
 obtain ⟨ra,rn,rc,sa,sn,sc,sv,aa,an,ac,ua,un,uc⟩:=x
 obtain rfl:sn=c.s.length:=hc.s.1
 obtain rfl:rn=c.r.length:=hc.r.1.1
 obtain rfl:an=c.a.length:=hc.a.1.1
 obtain rfl:un=c.u.length:=hc.u.1.1
 obtain rfl:=hL.1
 unfold StA.cells
 dsimp only
 have hb0:Below w.heap.size w (w.alloc (.cells #[.slice ra c.r.length rc,.slice sa c.s.length sc,.slice aa c.a.length ac,.slice ua c.u.length uc,.int .u64 (c.t:Int)] 27)):=(Below.refl _ _).alloc (Nat.le_refl _) _
 have hv:=heap_new w (.cells #[.slice ra c.r.length rc,.slice sa c.s.length sc,.slice aa c.a.length ac,.slice ua c.u.length uc,.int .u64 (c.t:Int)] 27 (0,0))
 have HS:=Lib.hid (isBB_cells2 hc.s)
 have HL:=Lib.hid hL
 have HCM:=Lib.hid hcm
 have HSM:=Lib.hid hs
 obtain ⟨m1,m2,m3,m4,_⟩:=hcm
 obtain ⟨g0,hg0⟩:∃ g0,g0=c.r.length+c.s.length+c.a.length / 10+c.u.length / 10:=⟨_,rfl⟩
 have HG0:=Lib.hid hg0
 have q1:((c.a.length:Int)).tdiv 10=((c.a.length / 10:Nat):Int):=by rw [Int.tdiv_eq_ediv_of_nonneg (by omega)];omega
 have q2:((c.u.length:Int)).tdiv 10=((c.u.length / 10:Nat):Int):=by rw [Int.tdiv_eq_ediv_of_nonneg (by omega)];omega
 clear hc hL hs hg0
 go_enter Tryz.func4,Tryz.ntmps4
 go_wp2_with fail
 generalize w.alloc (.cells #[.slice ra c.r.length rc,.slice sa c.s.length sc,.slice aa c.a.length ac,.slice ua c.u.length uc,.int .u64 (c.t:Int)] 27)=w0 at hb0 hv ⊢
 have f0:w0.cell? ⟨w.heap.size,0,none⟩=some (.slice ra c.r.length rc):=by rw [cell_of_block hv];rfl
 have f1:w0.cell? ⟨w.heap.size,1,none⟩=some (.slice sa c.s.length sc):=by rw [cell_of_block hv];rfl
 have f2:w0.cell? ⟨w.heap.size,2,none⟩=some (.slice aa c.a.length ac):=by rw [cell_of_block hv];rfl
 have f3:w0.cell? ⟨w.heap.size,3,none⟩=some (.slice ua c.u.length uc):=by rw [cell_of_block hv];rfl
 have HB0:=Lib.hid hb0
 clear hb0 hv
 go_wp2_with fail
 obtain ⟨N,hN⟩:∃ N,N=c.s.length:=⟨_,rfl⟩
 have HN:=Lib.hid hN
 clear hN
 go_loopw [6,5] (fun i s wr => ∃ k g:Nat,k≤c.s.length∧i=.int .i64 k∧s=.int .i64 g∧Hid (g=g0+ssum (c.s.take k))∧w0=wr) (fun i _ _=>N - (intOf i).toNat)
 case atStart=>exact ⟨0,g0,Nat.zero_le _,rfl,congrArg (Value.int .i64) (by have:=HG0.out;omega),Lib.hid rfl,rfl⟩
 case round =>
   obtain ⟨k,g,hk,rfl,rfl,HG,rfl⟩:=hrel
   have hg:g≤200000000000:=by
     have h1:=ssum_le (c.s.take k) (fun x hx=>HCM.out.e x (List.mem_of_mem_take hx))
     have h2:=HG.out
     have h3:=HG0.out
     simp only [List.length_take] at h1
     omega
   by_cases hlt:k<c.s.length
   · obtain ⟨sb,so,x1,z1,rfl,hsb,hsc⟩:=HS.out k hlt
     have e1:w0.cell? ⟨sb,so+k,none⟩=some (.slice x1 c.s[k].length z1):=(HB0.out.cell (p:=⟨sb,so+k,none⟩) hsb).trans hsc
     have hy:=HCM.out.e c.s[k] (List.getElem_mem hlt)
     have HSN:Hid (ssum (c.s.take (k+1))=ssum (c.s.take k)+c.s[k].length / 10):=Lib.hid (by rw [List.take_succ_eq_append_getElem hlt,ssum_snoc])
     clear hsc
     generalize c.s[k].length=y1 at e1 hy HSN
     have hq:((y1:Int)).tdiv 10=((y1 / 10:Nat):Int):=by rw [Int.tdiv_eq_ediv_of_nonneg (by omega)];omega
     go_wp2_with fail
     go_roundw
     case rel=>exact ⟨k+1,g+y1 / 10,by omega,by go_num,congrArg (Value.int .i64) (by omega),Lib.hid (by have:=HG.out;have:=HSN.out;omega),trivial⟩
     case measure=>have:=HN.out;simp [intOf];omega
   · have hkk:k=c.s.length:=by omega
     subst hkk
     have HG1:Hid (g=g0+ssum c.s):=Lib.hid (by have:=HG.out;rwa [List.take_length] at this)
     go_wp2_with fail
     obtain ⟨M,hM⟩:∃ M,M=L.length:=⟨_,rfl⟩
     have HM:=Lib.hid hM
     clear hM
     go_loopw [7,5] (fun i s wr => ∃ j h:Nat,∃ q:Nat,j≤L.length∧i=.int .i64 j∧s=.int .i64 h∧Hid (h=g+asum (L.take j))∧wr=w0.drewN q) (fun i _ _=>M - (intOf i).toNat)
     case atStart=>exact ⟨0,g,0,Nat.zero_le _,rfl,rfl,Lib.hid rfl,rfl⟩
     case round =>
       obtain ⟨j,z2,q,hj,rfl,rfl,HA,rfl⟩:=hrel
       have hz2:z2≤3000000000000:=by
         have h1:=asum_le (L.take j) (fun x hx=>HSM.out x (List.mem_of_mem_take hx))
         have h2:=HA.out
         simp only [List.length_take] at h1
         omega
       by_cases hlt2:j<L.length
       · obtain ⟨lb,lo,rfl,hlb,hcells⟩:∃ lb lo,la=some ⟨lb,lo,none⟩∧lb<w.heap.size∧∀ i (hi:i<L.length) j v,(L[i].cells)[j]?=some v→w.cell? ⟨lb,lo+i*10+j,none⟩=some v:=by
           rcases HL.out.2.2.2 with h | h
           · rw [h] at hlt2;exact absurd hlt2 (by simp)
           · exact h
         have c4:=hcells j hlt2 4 _ rfl
         have c6:=hcells j hlt2 6 _ rfl
         have c9:=hcells j hlt2 9 _ rfl
         have hsm:=HSM.out L[j] (List.getElem_mem hlt2)
         have HSN:Hid (asum (L.take (j+1))=asum (L.take j)+(4+L[j].r.n+L[j].on+L[j].bn / 40)):=Lib.hid (by rw [List.take_succ_eq_append_getElem hlt2,asum_snoc])
         clear hcells
         generalize L[j]=xa at c4 c6 c9 hsm HSN
         obtain ⟨k1,who,⟨sq,st,ba,bn,bc,bl⟩,p1,oa,on,oc,ol,n1,at1,b1,b2,b3,b4⟩:=xa
         unfold AcSm at hsm
         dsimp only at c4 c6 c9 hsm HSN
         obtain ⟨s1,s2,s3⟩:=hsm
         have hq:((b2:Int)).tdiv 40=((b2 / 40:Nat):Int):=by rw [Int.tdiv_eq_ediv_of_nonneg (by omega)];omega
         have e4:w0.cell? ⟨lb,lo+j*10+2+2,none⟩=some (.slice ba bn bc):=(HB0.out.cell (p:=⟨lb,lo+j*10+4,none⟩) hlb).trans c4
         have e6:w0.cell? ⟨lb,lo+j*10+6,none⟩=some (.slice oa on oc):=(HB0.out.cell (p:=⟨lb,lo+j*10+6,none⟩) hlb).trans c6
         have e9:w0.cell? ⟨lb,lo+j*10+9,none⟩=some (.slice b1 b2 b3):=(HB0.out.cell (p:=⟨lb,lo+j*10+9,none⟩) hlb).trans c9
         clear c4 c6 c9
         go_wp2_with fail
         go_quiet (fail)
         go_wp2_with fail
         go_roundw
         case rel=>exact ⟨j+1,z2+(4+bn+on+b2 / 40),_,by omega,by go_num,congrArg (Value.int .i64) (by omega),Lib.hid (by have:=HA.out;have:=HSN.out;omega),rfl⟩
         case measure=>have:=HM.out;simp [intOf];omega
       · have hjj:j=L.length:=by omega
         subst hjj
         have hfin:z2=grtN c L:=by
           have h1:=HA.out
           have h2:=HG1.out
           have h3:=HG0.out
           rw [List.take_length] at h1
           unfold grtN;omega
         clear HA
         subst hfin
         go_wp2_with fail
         go_ret
         refine ⟨?_,HB0.out.trans (below_drewN (Below.refl _ _) _ |>.mono HB0.out.size)⟩
         simp
         omega
end Go.Proofs.YtgbikngicidbkaaGreatDoor
