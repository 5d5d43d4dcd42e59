/- The document's stores (salesroomref20): Phase,Order,Record,Config;conditions: those typed. -/
import Derived.Test.YtgbikngicidbkaaGreatDoorQR20dR20gR20hR20e
import Derived.Test.YtgbikngicidbkaaGreatDoorQR20f
import Derived.Test.YtgbikngicidbkaaGreatDoorQStMktKBpMStPlaySStMktPStActStLawM
import Derived.Test.YtgbikngicidbkaaGreatDoorQGStTwStTRStOpnStGrtStCfgStGrtE
import Derived.Test.YtgbikngicidbkaaGreatDoorQMChkSameRSameC
import Derived.Deep.QuietTactic
import Derived.BigQuiet
import Derived.IntWalk
namespace Go.Proofs.YtgbikngicidbkaaGreatDoor
open Go.RowKit
set_option linter.unusedVariables false
set_option linter.unusedSimpArgs false
set_option maxRecDepth 100000
set_option maxHeartbeats 1000000 in
theorem rphase_pub (ts B rd rl rc:Nat) (x:StA) (c:StC) (R:Dsk) (w:World) (h:IsRS w ts B rd rl rc x c R) (hs:c.s.length≤1000) :
   Calls Tryz.prog 39 #[.pointer (some ⟨ts,0,none⟩)] w fun e w' => e=.returned (.int .u8 (phD c.s.length R).1)∧Below w.heap.size w w':=by
 have HP:=Lib.hid (rphase_any ts B rd rl rc x c R w h hs)
 generalize phD c.s.length R=X at HP ⊢
 clear h
 go_enter Tryz.func39,Tryz.ntmps39
 go_wp2_with fail
 refine HP.out.mono ?_;rintro e w1 ⟨a,m,c',rfl,hb1,-⟩
 clear HP
 go_wp2_with fail
 go_ret
 exact ⟨rfl,hb1⟩
set_option maxHeartbeats 1000000 in
theorem rorder_pub (ts B rd rl rc:Nat) (x:StA) (c:StC) (R:Dsk) (w:World) (h:IsRS w ts B rd rl rc x c R) (hs:c.s.length≤1000) :
   Calls Tryz.prog 33 #[.pointer (some ⟨ts,0,none⟩)] w fun e w' => ∃ (a:Option Addr) (m c':Nat),e=.returned (.tuple #[.slice a m c',.int .i64 (ordE c.s.length R)])∧Below w.heap.size w w'∧IsI w' a m c' (ordL c.s.length R):=by
 have HP:=Lib.hid (rphase_any ts B rd rl rc x c R w h hs)
 have HE:Hid (ordE c.s.length R=if (phD c.s.length R).1=2 then 0 else 8):=Lib.hid rfl
 have HL:Hid (ordL c.s.length R=if (phD c.s.length R).1=2 then (phD c.s.length R).2.1 else []):=Lib.hid rfl
 generalize ordE c.s.length R=E at HE ⊢
 generalize ordL c.s.length R=L at HL ⊢
 generalize phD c.s.length R=X at HP HE HL
 obtain ⟨p,l,ok⟩:=X
 dsimp only at HP HE HL
 clear h
 go_enter Tryz.func33,Tryz.ntmps33
 go_wp2_with fail
 refine HP.out.mono ?_;rintro e w1 ⟨a,m,c',rfl,hb1,hi1⟩
 have HB1:=Lib.hid hb1
 have HI1:=Lib.hid hi1
 clear HP hb1 hi1
 by_cases h2:p=2
 · have d4:((p:Int) == 2)=true:=by rw [beq_iff_eq];omega
   have d4':((p:Int) != 2)=false:=by rw [bne,d4];rfl
   have HE2:Hid (E=0∧L=l):=Lib.hid ⟨by rw [HE.out,if_pos h2],by rw [HL.out,if_pos h2]⟩
   clear h2 HE HL
   go_wp2_with fail
   go_ret2
   rw [HE2.out.1,HE2.out.2]
   exact ⟨a,m,c',rfl,HB1.out,HI1.out⟩
 · have d4:((p:Int) == 2)=false:=by rw [beq_eq_false_iff_ne];omega
   have d4':((p:Int) != 2)=true:=by rw [bne,d4];rfl
   have HE2:Hid (E=8∧L=[]):=Lib.hid ⟨by rw [HE.out,if_neg h2],by rw [HL.out,if_neg h2]⟩
   clear h2 HE HL
   go_wp2_with fail
   go_ret2
   rw [HE2.out.1,HE2.out.2]
   exact ⟨none,0,0,rfl,HB1.out,IsI.nil _⟩
set_option maxHeartbeats 2000000 in
theorem rrec_bad (ts B rd rl rc:Nat) (x:StA) (c:StC) (R:Dsk) (who:Int) (w:World) (h:IsRS w ts B rd rl rc x c R) (hw:who<0∨(c.s.length:Int)≤who) :
   Calls Tryz.prog 31 #[.pointer (some ⟨ts,0,none⟩),.int .i64 who] w fun e w' => e=.returned (.tuple #[.agg #[.int .u32 0,.bool false,.slice none 0 0],.int .i64 1])∧Below w.heap.size w w':=by
 have hb0:Below w.heap.size w (w.alloc (.cells #[.int .u32 0,.bool false,.slice none 0 0] 60)):=(Below.refl _ _).alloc (Nat.le_refl _) _
 have hv2:=heap_new w (.cells #[.int .u32 0,.bool false,.slice none 0 0] 60 (0,0))
 have f2:=(h.below hb0).f.2.2
 have HB:=Lib.hid hb0
 have HV:=Lib.hid hv2
 clear h hb0 hv2
 have arms:True:=trivial
 by_cases h1:who<0
 · have d1:decide (who<0)=true:=decide_eq_true h1
   clear h1 hw
   go_enter Tryz.func31,Tryz.ntmps31
   go_wp2_with (first
     | (refine wpList_store_whole rfl 60 (.tmp 4) (.tmp 20) rfl w.heap.size [.int .u32 0,.bool false,.slice none 0 0] _ _ HV.out rfl rfl rfl info_rec (rec_one _ _ _ _ _) ?_;intro w4 ht4 hg4)
     | fail)
   refine bodyPost_ret (results_cell_tmp rfl _ _ w.heap.size 0 rfl [.int .u32 0,.bool false,.slice none 0 0] _ (rangeAt_row hg4) Tryz.underlying60 rfl info_rec) rfl ?_
   exact ⟨rfl,HB.out.trans (ht4.below HB.out.size (fun k hk e=>by omega))⟩
 · have d1:decide (who<0)=false:=decide_eq_false h1
   have d2:decide (((c.s.length:Nat):Int)≤who)=true:=decide_eq_true (by omega)
   clear h1 hw
   go_enter Tryz.func31,Tryz.ntmps31
   go_wp2_with (first
     | (refine wpList_store_whole rfl 60 (.tmp 4) (.tmp 20) rfl w.heap.size [.int .u32 0,.bool false,.slice none 0 0] _ _ HV.out rfl rfl rfl info_rec (rec_one _ _ _ _ _) ?_;intro w4 ht4 hg4)
     | fail)
   refine bodyPost_ret (results_cell_tmp rfl _ _ w.heap.size 0 rfl [.int .u32 0,.bool false,.slice none 0 0] _ (rangeAt_row hg4) Tryz.underlying60 rfl info_rec) rfl ?_
   exact ⟨rfl,HB.out.trans (ht4.below HB.out.size (fun k hk e=>by omega))⟩
set_option maxHeartbeats 4000000 in
theorem rrec_ok (ts B rd rl rc:Nat) (x:StA) (c:StC) (R:Dsk) (k:Nat) (w:World) (h:IsRS w ts B rd rl rc x c R) (hk:k<c.s.length) (hs:c.s.length≤1000) (hr:c.r.length≤1000000) :
   Calls Tryz.prog 31 #[.pointer (some ⟨ts,0,none⟩),.int .i64 k] w fun e w' => ∃ (a:Option Addr) (m c':Nat),e=.returned (.tuple #[.agg #[.int .u32 (rcD c.r.length R k).1.seq,.bool (rcD c.r.length R k).1.stands,.slice a m c'],.int .i64 0])∧Below w.heap.size w w'∧IsI w' a m c' (rcD c.r.length R k).1.bid:=by
 have hb0:Below w.heap.size w (w.alloc (.cells #[.int .u32 0,.bool false,.slice none 0 0] 60)):=(Below.refl _ _).alloc (Nat.le_refl _) _
 have hv2:=heap_new w (.cells #[.int .u32 0,.bool false,.slice none 0 0] 60 (0,0))
 have hst:=h.below hb0
 have f2:=hst.f.2.2
 have HREC:=Lib.hid (rrecord_any ts B rd rl rc x c R k _ hst (by omega) hr)
 have HB:=Lib.hid hb0
 have HV:=Lib.hid hv2
 clear h hst hb0 hv2
 have d1:decide ((k:Int)<0)=false:=decide_eq_false (by omega)
 have d2:decide (((c.s.length:Nat):Int)≤(k:Int))=false:=decide_eq_false (by omega)
 have d3:decide (c.s.length≤k)=false:=decide_eq_false (by omega)
 generalize rcD c.r.length R k=X at HREC ⊢
 clear hk hs hr
 go_enter Tryz.func31,Tryz.ntmps31
 go_wp2_with fail
 refine HREC.out.mono ?_;rintro e w1 ⟨a,m,c',rfl,hb1,ho1⟩
 have hi1:=isI_of_owns ho1.2 ho1.1
 clear ho1
 obtain ⟨⟨sq,st,l⟩,ok⟩:=X
 dsimp only at hi1 ⊢
 have HB1:=Lib.hid (HB.out.trans (hb1.mono HB.out.size))
 have HV1:=Lib.hid (below_heap hb1 HV.out (lt_of_heap HV.out))
 have HI1:=Lib.hid hi1
 have hn1:w.heap.size<w1.heap.size:=lt_of_heap HV1.out
 have hbx:Below w1.heap.size w1 (w1.alloc (.cells #[.int .u32 sq,.bool st,.slice a m c'] 60)):=(Below.refl _ _).alloc (Nat.le_refl _) _
 have HNX:=Lib.hid (heap_new w1 (.cells #[.int .u32 sq,.bool st,.slice a m c'] 60 (0,0)))
 have HVX:=Lib.hid (below_heap hbx HV1.out (lt_of_heap HV1.out))
 have HBX:=Lib.hid (HB1.out.trans (hbx.mono HB1.out.size))
 have HIX:=Lib.hid (HI1.out.below hbx)
 clear hb1 hi1 hbx HREC HV HB
 go_wp2_with (first
   | (refine wpList_load_mid rfl 60 (.tmp 6) rfl w1.heap.size 0 rfl [.int .u32 sq,.bool st,.slice a m c'] _ (rangeAt_row HNX.out) Tryz.underlying60 rfl info_rec ?_)
   | (refine wpList_store_whole rfl 60 (.tmp 4) (.tmp 27) rfl w.heap.size [.int .u32 sq,.bool st,.slice a m c'] _ _ HVX.out rfl rfl rfl info_rec (rec_one _ _ _ _ _) ?_;intro w5 ht5 hg5)
   | fail)
 refine bodyPost_ret (results_cell_tmp rfl _ _ w.heap.size 0 rfl [.int .u32 sq,.bool st,.slice a m c'] _ (rangeAt_row hg5) Tryz.underlying60 rfl info_rec) rfl ?_
 have hoff:=HIX.out.off HVX.out (by rfl)
 exact ⟨a,m,c',rfl,HBX.out.trans (ht5.below HBX.out.size (fun k hk e=>by omega)),HIX.out.touch ht5 hoff⟩
theorem IsRS.cfgAt {w:World} {ts B rd rl rc:Nat} {x:StA} {c:StC} {R:Dsk} (h:IsRS w ts B rd rl rc x c R):w.rangeAt ts 1 (x.cells c.t):=rangeAt_mid h.cells (by rfl)
set_option maxHeartbeats 4000000 in
theorem rconfig_any (ts B rd rl rc:Nat) (x:StA) (c:StC) (R:Dsk) (w:World) (h:IsRS w ts B rd rl rc x c R) (hmay:c.may) :
   Calls Tryz.prog 37 #[.pointer (some ⟨ts,0,none⟩)] w fun e w' => ∃ y:StA,e=.returned (.agg (y.cells c.t).toArray)∧Below w.heap.size w w'∧IsCf w' (fun k=>w.heap.size≤k) y c:=by
 have hb0:Below w.heap.size w (w.alloc (.cells #[.slice none 0 0,.slice none 0 0,.slice none 0 0,.slice none 0 0,.int .u64 0] 27)):=(Below.refl _ _).alloc (Nat.le_refl _) _
 have hv2:=heap_new w (.cells #[.slice none 0 0,.slice none 0 0,.slice none 0 0,.slice none 0 0,.int .u64 0] 27 (0,0))
 have hst:=h.below hb0
 have HRA:=Lib.hid hst.cfgAt
 have HCF:=Lib.hid hst.cfg
 have HB:=Lib.hid hb0
 have HV:=Lib.hid hv2
 have HMAY:=Lib.hid hmay
 clear h hst hb0 hv2 hmay
 go_enter Tryz.func37,Tryz.ntmps37
 go_wp2_with (first
   | (refine wpList_load_mid rfl 27 (.tmp 8) rfl ts 1 rfl (x.cells c.t) _ HRA.out Tryz.underlying27 rfl info_cfg ?_)
   | fail)
 generalize w.alloc (.cells #[.slice none 0 0,.slice none 0 0,.slice none 0 0,.slice none 0 0,.int .u64 0] 27)=w0 at HB HV HCF HRA ⊢
 refine (rputcfg_any _ x c w0 HCF.out HMAY.out).mono ?_;rintro e w1 ⟨a1,n1,c1,rfl,hb1,ho1⟩
 have HO1:=Lib.hid ho1.isB
 have HB1:=Lib.hid (HB.out.trans (hb1.mono HB.out.size))
 have HV1:=Lib.hid (below_heap hb1 HV.out (lt_of_heap HV.out))
 clear hb1 ho1 HRA HCF HV HB
 go_wp2_with fail
 refine (rgetcfg_any a1 n1 c1 c.enc w1 HO1.out).mono ?_;rintro e w2 ⟨y,t,rfl,hb2,hg2⟩
 have hok:=okC_enc c HMAY.out
 obtain ⟨rfl,hcf2⟩:=hg2 hok c (decC_enc c HMAY.out)
 replace hcf2:=hcf2.cf
 have HCF2:=Lib.hid hcf2
 have HB2:=Lib.hid (HB1.out.trans (hb2.mono HB1.out.size))
 have HV2:=Lib.hid (below_heap hb2 HV1.out (lt_of_heap HV1.out))
 have hn2:w.heap.size<w1.heap.size:=lt_of_heap HV1.out
 have hn12:=hb2.size
 rw [hok]
 have hbx:Below w2.heap.size w2 (w2.alloc (.cells #[.slice none 0 0,.slice none 0 0,.slice none 0 0,.slice none 0 0,.int .u64 0] 27)):=(Below.refl _ _).alloc (Nat.le_refl _) _
 have HNX:=Lib.hid (heap_new w2 (.cells #[.slice none 0 0,.slice none 0 0,.slice none 0 0,.slice none 0 0,.int .u64 0] 27 (0,0)))
 have HBX:=Lib.hid hbx
 have HVX:Hid (∀ w4,Touch (fun k=>k=w2.heap.size) (w2.alloc (.cells #[.slice none 0 0,.slice none 0 0,.slice none 0 0,.slice none 0 0,.int .u64 0] 27)) w4→w4.heap[w.heap.size]?=some (.cells #[.slice none 0 0,.slice none 0 0,.slice none 0 0,.slice none 0 0,.int .u64 0] 27 (0,0))):=Lib.hid (fun w4 ht=>ht.heap (below_heap hbx HV2.out (lt_of_heap HV2.out)) (by omega))
 clear hg2 hcf2 hb2 hok hbx HO1
 unfold StA.cells
 go_wp2_with (first
   | (refine wpList_store_whole rfl 27 (.tmp 3) (.tmp 12) rfl w2.heap.size (y.cells c.t) _ _ HNX.out rfl rfl rfl info_cfg (StA.one _ _) ?_;intro w4 ht4 hg4;have hq4:=HVX.out w4 ht4)
   | (refine wpList_load_mid rfl 27 (.tmp 3) rfl w2.heap.size 0 rfl (y.cells c.t) _ (rangeAt_row hg4) Tryz.underlying27 rfl info_cfg ?_)
   | (refine wpList_store_whole rfl 27 (.tmp 2) (.tmp 14) rfl w.heap.size (y.cells c.t) _ _ hq4 rfl rfl rfl info_cfg (StA.one _ _) ?_;intro w5 ht5 hg5)
   | fail)
 refine bodyPost_ret (results_cell rfl _ _ w.heap.size 0 rfl (y.cells c.t) _ (rangeAt_row hg5) Tryz.underlying27 rfl info_cfg) rfl ?_
 have hbA:=HB2.out.trans (HBX.out.mono HB2.out.size)
 have hb4:=hbA.trans (ht4.below hbA.size (fun k hk e=>by have:=HB2.out.size;omega))
 exact ⟨y,rfl,hb4.trans (ht5.below hb4.size (fun k hk e=>by omega)),((((HCF2.out.both HCF2.out.low).below HBX.out).touch ht4 (fun k hk e=>by have:=hk.2;omega)).touch ht5 (fun k hk e=>by have:=hk.1;omega)).imp (fun k hk=>by have:=hk.1;omega)⟩
def ROpenQ (w:World) (B rd rl rc:Nat) (R:Dsk) (e:Ending) (w':World):Prop :=
 (∃ k,openC R=.error k∧e=.returned (.tuple #[.pointer none,.int .i64 k])) ∨
 (∃ c,openC R=.ok c∧∃ (ts:Nat) (y:StA),e=.returned (.tuple #[.pointer (some ⟨ts,0,none⟩),.int .i64 0])∧IsRS w' ts B rd rl rc y c R∧w.heap.size≤ts∧CfT w.heap.size w' y c)
theorem openC_0 {R:Dsk} (h:(R.get ((0:Nat):Int)).1=0):openC R=.error 7:=if_pos h
theorem openC_bad {R:Dsk} (h:(R.get ((0:Nat):Int)).1≠0) (h2:okC (R.get ((0:Nat):Int)).2.1=false):openC R=.error 4:=by
 unfold openC
 rw [if_neg h]
 cases hd:decC (R.get ((0:Nat):Int)).2.1 with
 | none=>rfl
 | some c =>
   dsimp only
   rw [okC_some hd] at h2
   rw [if_pos h2]
theorem openC_rest {R:Dsk} {c:StC} (h:(R.get ((0:Nat):Int)).1≠0) (h2:okC (R.get ((0:Nat):Int)).2.1=true) (hd:decC (R.get ((0:Nat):Int)).2.1=some c) :
   openC R=(if roomC R c.s.length=false then .error 3 else if ((phD c.s.length R).2.2 && allR c.r.length R c.s.length)=true then .ok c else .error 4)∧mayB c=true:=by
 rw [okC_some hd] at h2
 refine ⟨?_,h2⟩
 unfold openC
 rw [if_neg h,hd]
 dsimp only
 rw [if_neg (by rw [h2];decide)]
theorem okC_ex {b:List UInt8} (h:okC b=true):∃ c,decC b=some c:=by
 unfold okC at h
 cases hd:decC b with
 | none=>rw [hd] at h;cases h
 | some c=>exact ⟨c,rfl⟩
theorem IsRS.mk' {w:World} {B rd rl rc:Nat} {x:StA} {c:StC} {R:Dsk} (hd:IsRef w B rd rl rc R) (hc:IsCf w (fun k => ¬ (k=rd∨k=rl)) x c) (C:Array Value) (hC:C=([Value.pointer (some ⟨rd,0,none⟩)] ++ x.cells c.t).toArray) :
   IsRS (w.alloc (.cells C 115)) w.heap.size B rd rl rc x c R:=by
 subst hC
 have hb:Below w.heap.size w (w.alloc (.cells ([Value.pointer (some ⟨rd,0,none⟩)] ++ x.cells c.t).toArray 115)):=(Below.refl _ _).alloc (Nat.le_refl _) _
 refine ⟨heap_new w _,hd.below hb,hc.below hb,?_⟩
 obtain ⟨h1,h2,_⟩:=hd.lt
 intro e
 rcases e with e | e <;> omega
set_option maxHeartbeats 8000000 in
theorem ropen_any (B rd rl rc:Nat) (R:Dsk) (w:World) (h:IsRef w B rd rl rc R) :
   Calls Tryz.prog 22 #[.pointer (some ⟨rd,0,none⟩)] w fun e w' => ROpenQ w B rd rl rc R e w'∧Below w.heap.size w w':=by
 have HR:=Lib.hid h
 have hm:=h.most
 have hlt:=h.lt
 clear h
 by_cases h12:R.secs.length<12
 · have d1:decide ((R.secs.length:Int)<12)=true:=decide_eq_true (by omega)
   have HO:Hid (openC R=.error 7):=Lib.hid (openC_0 (by
     unfold Dsk.get
     rw [if_pos (by right;omega)]))
   clear h12
   go_enter Tryz.func22,Tryz.ntmps22
   go_wp2_with fail
   refine (rlen_any B rd rl rc R w HR.out).mono ?_;rintro e w1 ⟨rfl,rfl⟩
   go_wp2_with fail
   go_ret2
   exact ⟨.inl ⟨7,HO.out,rfl⟩,Below.refl _ _⟩
 have d1:decide ((R.secs.length:Int)<12)=false:=decide_eq_false (by omega)
 have HG:=Lib.hid (rget19_any B rd rl rc R ((0:Nat):Int) w HR.out)
 obtain ⟨q,hq⟩:∃ q,q=(R.get ((0:Nat):Int)).1:=⟨_,rfl⟩
 obtain ⟨b,hb⟩:∃ b,b=(R.get ((0:Nat):Int)).2.1:=⟨_,rfl⟩
 obtain ⟨z,hz⟩:∃ z,z=(R.get ((0:Nat):Int)).2.2:=⟨_,rfl⟩
 rw [← hq,← hb,← hz] at HG
 have HQ:=Lib.hid hq
 have HBE:=Lib.hid hb
 clear hq hb hz
 go_enter Tryz.func22,Tryz.ntmps22
 go_wp2_with fail
 refine (rlen_any B rd rl rc R w HR.out).mono ?_;rintro e w1 ⟨rfl,rfl⟩
 go_wp2_with fail
 refine HG.out.mono ?_;rintro e w1 ⟨ba,bm,bc,rfl,hb1,hi1⟩
 have HB1:=Lib.hid hb1
 have HI1:=Lib.hid hi1
 have HR1:=Lib.hid (HR.out.below hb1)
 clear HG hb1 hi1
 by_cases hq0:q=0
 · have d0:((q:Int) == 0)=true:=by rw [beq_iff_eq];omega
   have HO:Hid (openC R=.error 7):=Lib.hid (openC_0 (by rw [← HQ.out,hq0]))
   clear hq0
   go_wp2_with fail
   go_ret2
   exact ⟨.inl ⟨7,HO.out,rfl⟩,HB1.out⟩
 have d0:((q:Int) == 0)=false:=by rw [beq_eq_false_iff_ne];omega
 have HQ0:=Lib.hid hq0
 clear hq0
 go_wp2_with fail
 refine (rgetcfg_any ba bm bc b w1 HI1.out).mono ?_;rintro e w2 ⟨y,t,rfl,hb2,hg2⟩
 have hbx:Below w2.heap.size w2 (w2.alloc (.cells #[.slice none 0 0,.slice none 0 0,.slice none 0 0,.slice none 0 0,.int .u64 0] 27)):=(Below.refl _ _).alloc (Nat.le_refl _) _
 have HNX:=Lib.hid (heap_new w2 (.cells #[.slice none 0 0,.slice none 0 0,.slice none 0 0,.slice none 0 0,.int .u64 0] 27 (0,0)))
 have HB2:=Lib.hid (HB1.out.trans (hb2.mono HB1.out.size))
 have HBX:=Lib.hid hbx
 have HR2:=Lib.hid (HR1.out.below hb2)
 have HGO:=Lib.hid hg2
 have hs12:=hb2.size
 have hs1:=HB1.out.size
 clear hb2 hg2 hbx HI1
 cases hok:okC b with
 | false =>
   have HO:Hid (openC R=.error 4):=Lib.hid (openC_bad (by rw [← HQ.out];exact HQ0.out) (by rw [← HBE.out];exact hok))
   clear hok
   go_wp2_with (first
     | (refine wpList_store_whole rfl 27 (.tmp 7) (.tmp 27) rfl w2.heap.size (y.cells t) _ _ HNX.out rfl rfl rfl info_cfg (StA.one _ _) ?_;intro w4 ht4 hg4)
     | fail)
   go_ret2
   have hbA:=HB2.out.trans (HBX.out.mono HB2.out.size)
   exact ⟨.inl ⟨4,HO.out,rfl⟩,hbA.trans (ht4.below hbA.size (fun k hk e=>by have:=HB2.out.size;omega))⟩
 | true =>
   obtain ⟨c,hdc⟩:=okC_ex hok
   obtain ⟨rfl,hcf⟩:=HGO.out hok c hdc
   obtain ⟨hop,hmb⟩:=openC_rest (by rw [← HQ.out];exact HQ0.out) (by rw [← HBE.out];exact hok) (by rw [← HBE.out];exact hdc)
   have HOP:=Lib.hid hop
   have HCF:=Lib.hid hcf
   have hmay:=(mayB_iff c).1 hmb
   have hs8:=hmay.s.2
   have hr8:=hmay.r.2.1
   obtain ⟨ra,rn,rcc,sa,sn,sc,sv,aa,an,ac,ua,un,uc⟩:=y
   have hsn:sn=c.s.length:=hcf.s.1
   have HT:Hid (c.t<18446744073709551616):=Lib.hid hcf.t
   subst hsn
   clear hok hdc hop hcf hmb hmay HGO HQ0 HQ HBE
   have HSZ:Hid (w2.heap.size<(w2.alloc (.cells #[.slice none 0 0,.slice none 0 0,.slice none 0 0,.slice none 0 0,.int .u64 0] 27)).heap.size):=Lib.hid (lt_of_heap HNX.out)
   unfold StA.cells
   go_wp2_with (first
     | (refine wpList_store_whole rfl 27 (.tmp 7) (.tmp 27) rfl w2.heap.size [.slice ra rn rcc,.slice sa c.s.length sc,.slice aa an ac,.slice ua un uc,.int .u64 (c.t:Int)] _ _ HNX.out rfl rfl rfl info_cfg (cfg_one _ _ _ _ _ _ _ _ _ _ _ _ _) ?_;intro w4 ht4 hg4)
     | (refine wpList_load_mid rfl 27 (.tmp 7) rfl w2.heap.size 0 rfl [.slice ra rn rcc,.slice sa c.s.length sc,.slice aa an ac,.slice ua un uc,.int .u64 (c.t:Int)] _ (rangeAt_row hg4) Tryz.underlying27 rfl info_cfg ?_)
     | fail)
   have hcf4:=HCF.out.new HBX.out ht4 (fun k _ hk e=>by omega)
   have hr4:=(HR2.out.below HBX.out).touch ht4 (fun k hk cur t fz hc=>by
     subst hk
     rw [HNX.out] at hc
     cases hc
     exact ⟨by decide,by decide,by decide⟩)
   have hbA:=HB2.out.trans (HBX.out.mono HB2.out.size)
   have hb4:=hbA.trans (ht4.below hbA.size (fun k hk e=>by have:=HB2.out.size;omega))
   have hs4:=IsRS.mk' (x:=⟨ra,rn,rcc,sa,c.s.length,sc,sv,aa,an,ac,ua,un,uc⟩) hr4 (hcf4.cf.imp (fun k hk e=>by omega)) #[.pointer (some ⟨rd,0,none⟩),.slice ra rn rcc,.slice sa c.s.length sc,.slice aa an ac,.slice ua un uc,.int .u64 (c.t:Int)] rfl
   have hbx4:Below w4.heap.size w4 (w4.alloc (.cells #[.pointer (some ⟨rd,0,none⟩),.slice ra rn rcc,.slice sa c.s.length sc,.slice aa an ac,.slice ua un uc,.int .u64 (c.t:Int)] 115)):=(Below.refl _ _).alloc (Nat.le_refl _) _
   have hb5:=hb4.trans (hbx4.mono hb4.size)
   have hcf5:=(hcf4.below hbx4).lower (D:=w.heap.size) (by omega)
   have hk5:=below_heap hbx4 hg4 (lt_of_heap hg4)
   obtain ⟨ts,hts⟩:∃ ts,ts=w4.heap.size:=⟨_,rfl⟩
   have hts4:w.heap.size≤ts:=by rw [hts];exact hb4.size
   rw [← hts] at hs4 ⊢
   generalize w4.alloc (.cells #[.pointer (some ⟨rd,0,none⟩),.slice ra rn rcc,.slice sa c.s.length sc,.slice aa an ac,.slice ua un uc,.int .u64 (c.t:Int)] 115)=w5 at hs4 hb5 hcf5 hk5 ⊢
   have H5:=Lib.hid hs4
   have HB5:=Lib.hid hb5
   have HC5:=Lib.hid hcf5
   have HK5:=Lib.hid hk5
   have k1:w5.cell? ⟨w2.heap.size,1,none⟩=some (.slice sa c.s.length sc):=by rw [cell_of_block hk5];rfl
   clear hcf4 hr4 hbA hb4 hs4 hbx4 hb5 hcf5 hk5 hts hg4 ht4 HNX HBX HCF HR2 HB2 HSZ HR1 HB1
   have hw1:IntKind.i64.wrap (2+(c.s.length:Int))=2+(c.s.length:Int):=IntWalk.i64_in _ (by omega)
   have hw2:IntKind.i64.wrap (12*(2+(c.s.length:Int)))=12*(2+(c.s.length:Int)):=IntWalk.i64_in _ (by omega)
   by_cases hroom:R.secs.length<12*(2+c.s.length)
   · have d2:decide ((R.secs.length:Int)<12*(2+(c.s.length:Int)))=true:=decide_eq_true (by omega)
     have HO:Hid (openC R=.error 3):=Lib.hid (by
       rw [HOP.out,if_pos]
       unfold roomC
       exact decide_eq_false (by omega))
     clear hroom
     go_quiet ((go_at_call 59;exact Calls.quiet_of_same ((rlen_any B rd rl rc R _ (H5.out.disk.below (below_drewN (Below.refl _ _) _))).mono fun e w' ⟨h1,h2⟩ => ⟨h1,h2.symm⟩)))
     clear hw1 hw2
     go_wp2_with fail
     go_ret2
     exact ⟨.inl ⟨3,HO.out,rfl⟩,below_drewN HB5.out _⟩
   have d2:decide ((R.secs.length:Int)<12*(2+(c.s.length:Int)))=false:=decide_eq_false (by omega)
   have HO:Hid (openC R=if ((phD c.s.length R).2.2 && allR c.r.length R c.s.length)=true then .ok c else .error 4):=Lib.hid (by
     rw [HOP.out,if_neg]
     unfold roomC
     rw [decide_eq_true (by omega)];decide)
   clear hroom HOP
   go_quiet ((go_at_call 59;exact Calls.quiet_of_same ((rlen_any B rd rl rc R _ (H5.out.disk.below (below_drewN (Below.refl _ _) _))).mono fun e w' ⟨h1,h2⟩ => ⟨h1,h2.symm⟩)))
   clear hw1 hw2
   have hbd:Below w5.heap.size w5 (w5.drewN nq):=below_drewN' w5 nq
   have H6:=Lib.hid (H5.out.below hbd)
   have HB6:=Lib.hid (HB5.out.trans (hbd.mono HB5.out.size))
   have HC6:=Lib.hid (HC5.out.below hbd)
   have HK6:=Lib.hid (below_heap hbd HK5.out (lt_of_heap HK5.out))
   clear hbd H5 HB5 HC5 HK5
   go_wp2_with fail
   generalize w5.drewN nq=w6 at H6 HB6 HC6 HK6 ⊢
   refine (rphase_any ts B rd rl rc _ c R w6 H6.out (by omega)).mono ?_;rintro e w7 ⟨pa,pm,pc,rfl,hb7,-⟩
   obtain ⟨X,hX⟩:∃ X,X=phD c.s.length R:=⟨_,rfl⟩
   rw [← hX] at HO ⊢
   obtain ⟨ph,pl,pok⟩:=X
   dsimp only at HO ⊢
   have H7:=Lib.hid (H6.out.below hb7)
   have HB7:=Lib.hid (HB6.out.trans (hb7.mono HB6.out.size))
   have HC7:=Lib.hid (HC6.out.below hb7)
   have HK7:=Lib.hid (below_heap hb7 HK6.out (lt_of_heap HK6.out))
   clear hb7 hX H6 HB6 HC6 HK6 k1
   cases pok with
   | false =>
     have HO4:Hid (openC R=.error 4):=Lib.hid (by rw [HO.out];simp)
     go_wp2_with fail
     go_ret2
     exact ⟨.inl ⟨4,HO4.out,rfl⟩,HB7.out⟩
   | true =>
     obtain ⟨N,hN⟩:∃ N,N=c.s.length:=⟨_,rfl⟩
     have HN:=Lib.hid hN
     clear hN
     go_wp2_with fail
     go_loopw [10] (fun i wr => ∃ j:Nat,j≤c.s.length∧i=.int .i64 j∧Hid (allR c.r.length R j=true)∧Hid (Below w7.heap.size w7 wr)) (fun i _=>N - (intOf i).toNat)
     case atStart=>exact ⟨0,Nat.zero_le _,rfl,Lib.hid (allR_zero _ _),Lib.hid (Below.refl _ _)⟩
     case round =>
       obtain ⟨j,hj,rfl,HA,HW⟩:=hrel
       have k1:wr.cell? ⟨w2.heap.size,1,none⟩=some (.slice sa c.s.length sc):=by rw [cell_of_block (below_heap HW.out HK7.out (lt_of_heap HK7.out))];rfl
       have H8:=Lib.hid (H7.out.below HW.out)
       by_cases hlt:j<c.s.length
       · have hd0:decide (j<c.s.length)=true:=decide_eq_true hlt
         go_wp2_with fail
         refine (rrecord_any ts B rd rl rc _ c R j wr H8.out (by omega) (by omega)).mono ?_;rintro e w8 ⟨xa,xm,xc,rfl,hb8,hi8⟩
         have HAS:=Lib.hid (allR_succ c.r.length R j)
         obtain ⟨X,hX⟩:∃ X,X=rcD c.r.length R j:=⟨_,rfl⟩
         rw [← hX] at HAS ⊢
         obtain ⟨⟨sq,st,l⟩,ok⟩:=X
         dsimp only at HAS ⊢
         have hbx8:Below w8.heap.size w8 (w8.alloc (.cells #[.int .u32 sq,.bool st,.slice xa xm xc] 60)):=(Below.refl _ _).alloc (Nat.le_refl _) _
         have HW8:=Lib.hid (HW.out.trans ((hb8.trans (hbx8.mono hb8.size)).mono HW.out.size))
         clear hb8 hi8 hX hbx8
         cases ok with
         | false =>
           have HO4:Hid (openC R=.error 4):=Lib.hid (by
             rw [HO.out,if_neg]
             rw [Bool.true_and]
             intro e
             have h1:allR c.r.length R (j+1)=false:=by rw [HAS.out];simp
             unfold allR at e h1
             rw [List.all_eq_true] at e
             rw [Bool.eq_false_iff] at h1
             apply h1
             rw [List.all_eq_true]
             intro i hi
             exact e i (List.mem_range.2 (by have:=List.mem_range.1 hi;omega)))
           go_wp2_with fail
           go_ret2
           exact ⟨.inl ⟨4,HO4.out,rfl⟩,HB7.out.trans (HW8.out.mono HB7.out.size)⟩
         | true =>
           have HA8:Hid (allR c.r.length R (j+1)=true):=Lib.hid (by rw [HAS.out,HA.out];rfl)
           go_wp2_with fail
           go_roundw
           case rel=>exact ⟨j+1,by omega,by go_num,HA8,HW8⟩
           case measure=>have:=HN.out;simp [intOf];omega
       · have hjj:j=c.s.length:=by omega
         have HO4:Hid (openC R=.ok c):=Lib.hid (by rw [HO.out,if_pos];rw [Bool.true_and,← hjj];exact HA.out)
         subst hjj
         go_wp2_with fail
         go_ret2
         exact ⟨.inr ⟨c,HO4.out,ts,_,rfl,H8.out,hts4,HC7.out.below HW.out⟩,HB7.out.trans (HW.out.mono HB7.out.size)⟩
set_option maxHeartbeats 2000000 in
theorem rmake_arg (P:Nat→Prop) (v:Value) (x:StA) (c:StC) (w:World) (hc:IsCf w P x c) (hm:mayB c=false) :
   Calls Tryz.prog 10 #[v,.agg (x.cells c.t).toArray] w fun e w' => e=.returned (.tuple #[.pointer none,.int .i64 1])∧Below w.heap.size w w':=by
 obtain ⟨ra,rn,rcc,sa,sn,sc,sv,aa,an,ac,ua,un,uc⟩:=x
 have hb0:Below w.heap.size w (w.alloc (.cells #[.slice ra rn rcc,.slice sa sn sc,.slice aa an ac,.slice ua un uc,.int .u64 (c.t:Int)] 27)):=(Below.refl _ _).alloc (Nat.le_refl _) _
 have HV:=Lib.hid (heap_new w (.cells #[.slice ra rn rcc,.slice sa sn sc,.slice aa an ac,.slice ua un uc,.int .u64 (c.t:Int)] 27 (0,0)))
 have HC:=Lib.hid (hc.below hb0)
 have HB:=Lib.hid hb0
 clear hc hb0
 unfold StA.cells
 dsimp only
 go_enter Tryz.func10,Tryz.ntmps10
 go_wp2_with (first
   | (refine wpList_load_mid rfl 27 (.tmp 3) rfl w.heap.size 0 rfl [.slice ra rn rcc,.slice sa sn sc,.slice aa an ac,.slice ua un uc,.int .u64 (c.t:Int)] _ (rangeAt_row HV.out) Tryz.underlying27 rfl info_cfg ?_)
   | fail)
 generalize w.alloc (.cells #[.slice ra rn rcc,.slice sa sn sc,.slice aa an ac,.slice ua un uc,.int .u64 (c.t:Int)] 27)=w0 at HV HC HB ⊢
 refine (rmay_flat P ⟨ra,rn,rcc,sa,sn,sc,sv,aa,an,ac,ua,un,uc⟩ c c.t w0 HC.out rfl).mono ?_;rintro e w1 ⟨rfl,hb1⟩
 rw [hm]
 have HB1:=Lib.hid (HB.out.trans (hb1.mono HB.out.size))
 clear hb1
 go_wp2_with fail
 go_ret2
 exact ⟨rfl,HB1.out⟩
def RMakeQ (w:World) (B rd rl rc:Nat) (R:Dsk) (c:StC) (e:Ending) (w':World):Prop :=
 (roomC R c.s.length=false∧e=.returned (.tuple #[.pointer none,.int .i64 3])∧Below w.heap.size w w') ∨
 (roomC R c.s.length=true∧0<(R.get ((0:Nat):Int)).1∧e=.returned (.tuple #[.pointer none,.int .i64 11])∧Below w.heap.size w w') ∨
 (roomC R c.s.length=true∧(R.get ((0:Nat):Int)).1=0∧(R.put ((0:Nat):Int) 1 c.enc).1≠0∧e=.returned (.tuple #[.pointer none,.int .i64 (R.put ((0:Nat):Int) 1 c.enc).1])∧Touch (fun k=>k=rd∨k=rl) w w'∧IsRef w' B rd rl rc (R.put ((0:Nat):Int) 1 c.enc).2) ∨
 (roomC R c.s.length=true∧(R.get ((0:Nat):Int)).1=0∧(R.put ((0:Nat):Int) 1 c.enc).1=0∧∃ (ts:Nat) (y:StA),e=.returned (.tuple #[.pointer (some ⟨ts,0,none⟩),.int .i64 0])∧Touch (fun k=>k=rd∨k=rl) w w'∧IsRS w' ts B rd rl rc y c (R.put ((0:Nat):Int) 1 c.enc).2∧w.heap.size≤ts∧CfT w.heap.size w' y c)
set_option maxHeartbeats 8000000 in
theorem rmake_may (P:Nat→Prop) (B rd rl rc:Nat) (R:Dsk) (x:StA) (c:StC) (k:Int) (w:World) (h:IsRef w B rd rl rc R) (hc:IsCf w P x c) (hP:∀ k,P k→¬ (k=rd∨k=rl)) (hm:mayB c=true) (hk:R.fine k) (hk2:k≤1000000000000000) :
   Calls Tryz.prog 10 #[.pointer (some ⟨rd,0,none⟩),.agg (x.cells c.t).toArray] w fun e w' => RMakeQ w B rd rl rc R c e w':=by
 obtain ⟨ra,rn,rcc,sa,sn,sc,sv,aa,an,ac,ua,un,uc⟩:=x
 have hsn:sn=c.s.length:=hc.s.1
 subst hsn
 have hb0:Below w.heap.size w (w.alloc (.cells #[.slice ra rn rcc,.slice sa c.s.length sc,.slice aa an ac,.slice ua un uc,.int .u64 (c.t:Int)] 27)):=(Below.refl _ _).alloc (Nat.le_refl _) _
 have HV:=Lib.hid (heap_new w (.cells #[.slice ra rn rcc,.slice sa c.s.length sc,.slice aa an ac,.slice ua un uc,.int .u64 (c.t:Int)] 27 (0,0)))
 have HC:=Lib.hid ((hc.below hb0).imp hP)
 have HB:=Lib.hid hb0
 have HR:=Lib.hid (h.below hb0)
 have HM:=Lib.hid hm
 have HMAY:=Lib.hid ((mayB_iff c).1 hm)
 have HF:=Lib.hid hk
 have hs8:=HMAY.out.s.2
 have hlt:=h.lt
 have hmost:=h.most
 clear hc hb0 h hm hk hP
 unfold StA.cells
 dsimp only
 go_enter Tryz.func10,Tryz.ntmps10
 go_wp2_with (first
   | (refine wpList_load_mid rfl 27 (.tmp 3) rfl w.heap.size 0 rfl [.slice ra rn rcc,.slice sa c.s.length sc,.slice aa an ac,.slice ua un uc,.int .u64 (c.t:Int)] _ (rangeAt_row HV.out) Tryz.underlying27 rfl info_cfg ?_)
   | fail)
 generalize w.alloc (.cells #[.slice ra rn rcc,.slice sa c.s.length sc,.slice aa an ac,.slice ua un uc,.int .u64 (c.t:Int)] 27)=w0 at HV HC HB HR ⊢
 refine (rmay_flat _ ⟨ra,rn,rcc,sa,c.s.length,sc,sv,aa,an,ac,ua,un,uc⟩ c c.t w0 HC.out rfl).mono ?_;rintro e w1 ⟨rfl,hb1⟩
 rw [HM.out]
 have HB1:=Lib.hid (HB.out.trans (hb1.mono HB.out.size))
 have HV1:=Lib.hid (below_heap hb1 HV.out (lt_of_heap HV.out))
 have HC1:=Lib.hid (HC.out.below hb1)
 have HR1:=Lib.hid (HR.out.below hb1)
 have k1:w1.cell? ⟨w.heap.size,1,none⟩=some (.slice sa c.s.length sc):=by rw [cell_of_block HV1.out];rfl
 clear hb1 HB HV HC HR
 have hw1:IntKind.i64.wrap (2+(c.s.length:Int))=2+(c.s.length:Int):=IntWalk.i64_in _ (by omega)
 have hw2:IntKind.i64.wrap (12*(2+(c.s.length:Int)))=12*(2+(c.s.length:Int)):=IntWalk.i64_in _ (by omega)
 go_wp2_with fail
 by_cases hroom:R.secs.length<12*(2+c.s.length)
 · have d2:decide ((R.secs.length:Int)<12*(2+(c.s.length:Int)))=true:=decide_eq_true (by omega)
   have HO:Hid (roomC R c.s.length=false):=Lib.hid (by unfold roomC;exact decide_eq_false (by omega))
   clear hroom
   go_quiet ((go_at_call 59;exact Calls.quiet_of_same ((rlen_any B rd rl rc R _ (HR1.out.below (below_drewN (Below.refl _ _) _))).mono fun e w' ⟨h1,h2⟩ => ⟨h1,h2.symm⟩)))
   clear hw1 hw2
   go_wp2_with fail
   go_ret2
   exact .inl ⟨HO.out,rfl,below_drewN HB1.out _⟩
 have d2:decide ((R.secs.length:Int)<12*(2+(c.s.length:Int)))=false:=decide_eq_false (by omega)
 have HO:Hid (roomC R c.s.length=true):=Lib.hid (by unfold roomC;exact decide_eq_true (by omega))
 clear hroom
 go_quiet ((go_at_call 59;exact Calls.quiet_of_same ((rlen_any B rd rl rc R _ (HR1.out.below (below_drewN (Below.refl _ _) _))).mono fun e w' ⟨h1,h2⟩ => ⟨h1,h2.symm⟩)))
 clear hw1 hw2
 have hbd:Below w1.heap.size w1 (w1.drewN nq):=below_drewN' w1 nq
 have HB2:=Lib.hid (HB1.out.trans (hbd.mono HB1.out.size))
 have HV2:=Lib.hid (below_heap hbd HV1.out (lt_of_heap HV1.out))
 have HC2:=Lib.hid (HC1.out.below hbd)
 have HR2:=Lib.hid (HR1.out.below hbd)
 clear hbd HB1 HV1 HC1 HR1 k1
 go_wp2_with fail
 generalize w1.drewN nq=w2 at HB2 HV2 HC2 HR2 ⊢
 have HG:=Lib.hid (rget19_any B rd rl rc R ((0:Nat):Int) w2 HR2.out)
 obtain ⟨q,hq⟩:∃ q,q=(R.get ((0:Nat):Int)).1:=⟨_,rfl⟩
 obtain ⟨z,hz⟩:∃ z,z=(R.get ((0:Nat):Int)).2.2:=⟨_,rfl⟩
 rw [← hq,← hz] at HG
 have HQ:=Lib.hid hq
 clear hq hz
 refine HG.out.mono ?_;rintro e w3 ⟨ba,bm,bc,rfl,hb3,-⟩
 have HB3:=Lib.hid (HB2.out.trans (hb3.mono HB2.out.size))
 have HV3:=Lib.hid (below_heap hb3 HV2.out (lt_of_heap HV2.out))
 have HC3:=Lib.hid (HC2.out.below hb3)
 have HR3:=Lib.hid (HR2.out.below hb3)
 have hn3:w.heap.size<w3.heap.size:=lt_of_heap HV3.out
 clear hb3 HG HB2 HV2 HC2 HR2
 by_cases hq0:0<q
 · have d3:decide (0<q)=true:=decide_eq_true hq0
   have d3':decide ((0:Int)<(q:Int))=true:=decide_eq_true (by omega)
   have HQ0:Hid (0<(R.get ((0:Nat):Int)).1):=Lib.hid (by rw [← HQ.out];exact hq0)
   clear hq0
   go_wp2_with fail
   go_ret2
   exact .inr (.inl ⟨HO.out,HQ0.out,rfl,HB3.out⟩)
 have d3:decide (0<q)=false:=decide_eq_false hq0
 have d3':decide ((0:Int)<(q:Int))=false:=decide_eq_false (by omega)
 have HQ0:Hid ((R.get ((0:Nat):Int)).1=0):=Lib.hid (by rw [← HQ.out];omega)
 clear hq0 HQ
 go_wp2_with (first
   | (refine wpList_load_mid rfl 27 (.tmp 3) rfl w.heap.size 0 rfl [.slice ra rn rcc,.slice sa c.s.length sc,.slice aa an ac,.slice ua un uc,.int .u64 (c.t:Int)] _ (rangeAt_row HV3.out) Tryz.underlying27 rfl info_cfg ?_)
   | fail)
 refine (rputcfg_flat _ ⟨ra,rn,rcc,sa,c.s.length,sc,sv,aa,an,ac,ua,un,uc⟩ c c.t w3 HC3.out HM.out rfl).mono ?_;rintro e w4 ⟨pa,pn,pc,rfl,hb4,ho4⟩
 have HB4:=Lib.hid (HB3.out.trans (hb4.mono HB3.out.size))
 have HV4:=Lib.hid (below_heap hb4 HV3.out (lt_of_heap HV3.out))
 have HC4:=Lib.hid (HC3.out.below hb4)
 have HR4:=Lib.hid (HR3.out.below hb4)
 have HO4:=Lib.hid ho4
 have hs34:=hb4.size
 clear hb4 ho4 HB3 HV3 HC3 HR3
 go_wp2_with fail
 obtain ⟨E,hE⟩:∃ E,E=(R.put ((0:Nat):Int) 1 c.enc).1:=⟨_,rfl⟩
 obtain ⟨R',hR'⟩:∃ R',R'=(R.put ((0:Nat):Int) 1 c.enc).2:=⟨_,rfl⟩
 have HPT:=Lib.hid (rput19_any B rd rl rc R ((0:Nat):Int) 1 pa pn pc c.enc k w4 HR4.out HO4.out.isB (fun b off e hne=>by subst e;have h1:w3.heap.size≤b:=owns_base2 HO4.out.2;have h2:=hlt;omega) HF.out hk2 (by decide))
 rw [← hE,← hR'] at HPT
 have HE:=Lib.hid hE
 have HR':=Lib.hid hR'
 clear hE hR'
 refine HPT.out.mono ?_;rintro e w5 ⟨rfl,ht5,hr5⟩
 have hn5:w.heap.size<w5.heap.size:=by have:=ht5.size;have:=lt_of_heap HV4.out;omega
 have HT5:=Lib.hid ((Touch.of_below (S:=fun k=>k=rd∨k=rl) HB4.out).trans ht5)
 have HV5:=Lib.hid (ht5.heap HV4.out (by have:=hlt;omega))
 have HC5:=Lib.hid (HC4.out.touch ht5 (fun k hk=>hk))
 have HR5:=Lib.hid hr5
 clear ht5 hr5 HPT HB4 HV4 HC4 HR4 HO4
 by_cases hE0:E=0
 · have d4:(E == 0)=true:=by rw [beq_iff_eq];exact hE0
   have d4':(E != 0)=false:=by rw [bne,d4];rfl
   have HE0:Hid ((R.put ((0:Nat):Int) 1 c.enc).1=0):=Lib.hid (by rw [← HE.out];exact hE0)
   clear hE0
   have hbx:Below w5.heap.size w5 (w5.alloc (.cells #[.pointer (some ⟨rd,0,none⟩),.slice none 0 0,.slice none 0 0,.slice none 0 0,.slice none 0 0,.int .u64 0] 115)):=(Below.refl _ _).alloc (Nat.le_refl _) _
   have HNX:=Lib.hid (heap_new w5 (.cells #[.pointer (some ⟨rd,0,none⟩),.slice none 0 0,.slice none 0 0,.slice none 0 0,.slice none 0 0,.int .u64 0] 115 (0,0)))
   have HVX:=Lib.hid (below_heap hbx HV5.out (lt_of_heap HV5.out))
   have HCX:=Lib.hid (HC5.out.below hbx)
   have HRX:=Lib.hid (HR5.out.below hbx)
   have HTX:=Lib.hid (HT5.out.trans (Touch.of_below (S:=fun k=>k=rd∨k=rl) hbx))
   clear hbx HV5 HC5 HR5 HT5
   go_wp2_with (first
     | (refine wpList_load_mid rfl 27 (.tmp 3) rfl w.heap.size 0 rfl [.slice ra rn rcc,.slice sa c.s.length sc,.slice aa an ac,.slice ua un uc,.int .u64 (c.t:Int)] _ (rangeAt_row HVX.out) Tryz.underlying27 rfl info_cfg ?_)
     | fail)
   have hsx:w5.heap.size<(w5.alloc (.cells #[.pointer (some ⟨rd,0,none⟩),.slice none 0 0,.slice none 0 0,.slice none 0 0,.slice none 0 0,.int .u64 0] 115)).heap.size:=lt_of_heap HNX.out
   generalize w5.alloc (.cells #[.pointer (some ⟨rd,0,none⟩),.slice none 0 0,.slice none 0 0,.slice none 0 0,.slice none 0 0,.int .u64 0] 115)=w6 at HNX HVX HCX HRX HTX hsx ⊢
   refine (rputcfg_flat _ ⟨ra,rn,rcc,sa,c.s.length,sc,sv,aa,an,ac,ua,un,uc⟩ c c.t w6 HCX.out HM.out rfl).mono ?_;rintro e w7 ⟨ga,gn,gc,rfl,hb7,ho7⟩
   have HI7:=Lib.hid ho7.isB
   have HN7:=Lib.hid (below_heap hb7 HNX.out (lt_of_heap HNX.out))
   have HR7:=Lib.hid (HRX.out.below hb7)
   have HT7:=Lib.hid (HTX.out.trans (Touch.of_below (S:=fun k=>k=rd∨k=rl) hb7))
   have hs67:=hb7.size
   clear hb7 ho7 HNX HVX HCX HRX HTX
   go_wp2_with fail
   refine (rgetcfg_any ga gn gc c.enc w7 HI7.out).mono ?_;rintro e w8 ⟨y,t,rfl,hb8,hg8⟩
   have hok:=okC_enc c HMAY.out
   obtain ⟨rfl,hcf8⟩:=hg8 hok c (decC_enc c HMAY.out)
   have HCF8:=Lib.hid hcf8
   have HN8:=Lib.hid (below_heap hb8 HN7.out (lt_of_heap HN7.out))
   have HR8:=Lib.hid (HR7.out.below hb8)
   have HT8:=Lib.hid (HT7.out.trans (Touch.of_below (S:=fun k=>k=rd∨k=rl) hb8))
   rw [hok]
   clear hb8 hg8 hcf8 hok HN7 HR7 HT7 HI7
   unfold StA.cells
   go_wp2_with (first
     | (refine wpList_store_part rfl 27 (.tmp 48) (.tmp 45) rfl w5.heap.size 1 (y.cells c.t) _ _ HN8.out rfl rfl (by first | (show 1+5≤6;decide) | decide) info_cfg (StA.one _ _) ?_;intro w9 ht9 hg9)
     | fail)
   go_ret2
   have hcells:w9.heap[w5.heap.size]?=some (.cells ([Value.pointer (some ⟨rd,0,none⟩)] ++ y.cells c.t).toArray 115 (0,0)):=by
     rw [hg9]
     rfl
   have hr9:=HR8.out.touch ht9 (fun k hk cur t fz hc=>by
     subst hk
     rw [HN8.out] at hc
     cases hc
     exact ⟨by decide,by decide,by decide⟩)
   have hcf9:=HCF8.out.touch ht9 (fun k hk _ e=>by omega)
   refine .inr (.inr (.inr ⟨HO.out,HQ0.out,HE0.out,w5.heap.size,y,rfl,?_,⟨hcells,by rw [← HR'.out];exact hr9,hcf9.cf.imp (fun k hk=>by have:=hlt;omega),by have:=hlt;omega⟩,by omega,hcf9.lower (by omega)⟩))
   exact ⟨ht9.os.trans HT8.out.os,ht9.tape.trans HT8.out.tape,ht9.output.trans HT8.out.output,Nat.le_trans HT8.out.size ht9.size,fun k hk hs=>(ht9.block k (Nat.lt_of_lt_of_le hk HT8.out.size) (by omega)).trans (HT8.out.block k hk hs)⟩
 · have d4:(E == 0)=false:=by rw [beq_eq_false_iff_ne];exact hE0
   have d4':(E != 0)=true:=by rw [bne,d4];rfl
   have HE0:Hid ((R.put ((0:Nat):Int) 1 c.enc).1≠0):=Lib.hid (by rw [← HE.out];exact hE0)
   clear hE0
   go_wp2_with fail
   go_ret2
   exact .inr (.inr (.inl ⟨HO.out,HQ0.out,HE0.out,by rw [← HE.out];rfl,HT5.out,by rw [← HR'.out];exact HR5.out⟩))
theorem succ32_wrap (n:Nat) (h:n<4294967296):IntKind.u32.wrap ((n:Int)+1)=((succ32 n:Nat):Int):=by
 rw [IntKind.wrap_u32];unfold succ32;omega
theorem succ32_lt (n:Nat):succ32 n<4294967296:=Nat.mod_lt _ (by decide)
theorem turnsC_len {n p:Nat} {l:List Int} (h:turnsC n p l=true):l.length≤n:=by
 unfold turnsC at h
 split at h
 · unfold ordC at h
   rw [Bool.and_eq_true] at h
   have:=of_decide_eq_true h.1
   omega
 · rw [Bool.and_eq_true] at h
   have:=h.2
   cases l with
   | nil=>simp
   | cons _ _=>cases this
structure TnS (ts B rd rl rc:Nat) (x:StA) (c:StC) (R:Dsk) (a:Option Addr) (n cap:Nat) (l:List Int) (w W:World):Prop where
 st:IsRS W ts B rd rl rc x c R
 bel:Below w.heap.size w W
 i:IsI W a n cap l
theorem TnS.below {ts B rd rl rc:Nat} {x:StA} {c:StC} {R:Dsk} {a:Option Addr} {n cap:Nat} {l:List Int} {w W W':World} (h:TnS ts B rd rl rc x c R a n cap l w W) (hb:Below W.heap.size W W'):TnS ts B rd rl rc x c R a n cap l w W':=⟨h.st.below hb,h.bel.trans (hb.mono h.bel.size),h.i.below hb⟩
set_option maxHeartbeats 16000000 in
theorem rturn_any (ts B rd rl rc:Nat) (x:StA) (c:StC) (R:Dsk) (p:Nat) (a:Option Addr) (n cap:Nat) (l:List Int) (k:Int) (w:World) (h:IsRS w ts B rd rl rc x c R) (hI:IsI w a n cap l) (hp:p<256) (hs:c.s.length≤8) (hk:R.fine k) (hk2:k≤1000000000000000) (hg32:(R.get ((12:Nat):Int)).1<4294967296) :
   Calls Tryz.prog 15 #[.pointer (some ⟨ts,0,none⟩),.int .u8 p,.slice a n cap] w fun e w' => e=.returned (.int .i64 (turnD c.s.length R p l).1)∧Touch (fun k=>k=rd∨k=rl) w w'∧IsRef w' B rd rl rc (turnD c.s.length R p l).2:=by
 have HNL:=Lib.hid hI.1
 have hlm:n≤9223372036854775807:=by have:=hI.1;have:=hI.2.1;have:=hI.2.2.1;unfold maxLen at this;omega
 obtain ⟨f0,-,f2⟩:=h.f
 have HF:=Lib.hid hk
 have HG32:=Lib.hid hg32
 have HS0:Hid (TnS ts B rd rl rc x c R a n cap l w w):=Lib.hid ⟨h,Below.refl _ _,hI⟩
 obtain ⟨q,hq⟩:∃ q,q=(phD c.s.length R).1:=⟨_,rfl⟩
 obtain ⟨g,hg⟩:∃ g,g=(R.get ((12:Nat):Int)).1:=⟨_,rfl⟩
 obtain ⟨Z,hZ⟩:∃ Z,Z=R.put ((12:Nat):Int) (succ32 g) (encP p l):=⟨_,rfl⟩
 have HTD:Hid (turnD c.s.length R p l=if turnsC c.s.length p l=false then (1,R) else if nextC q p=false then (8,R) else Z):=Lib.hid (by unfold turnD;rw [hq,hZ,hg])
 have HPH:=Lib.hid (fun w1 (hb:IsRS w1 ts B rd rl rc x c R)=>(rphase_pub ts B rd rl rc x c R w1 hb (by omega)).mono (fun e w' hh=>by rw [← hq] at hh;exact hh))
 have HGET:=Lib.hid (fun w1 (hb:IsRS w1 ts B rd rl rc x c R)=>(rget19_any B rd rl rc R ((12:Nat):Int) w1 hb.disk).mono (fun e w' hh=>by rw [← hg] at hh;exact hh))
 have HPUT:Hid (∀ (W:World) (pa:Option Addr) (pm pc:Nat),TnS ts B rd rl rc x c R a n cap l w W→OwB1 w.heap.size W pa pm pc (encP p l)→Calls Tryz.prog 61 #[.pointer (some ⟨rd,0,none⟩),.int .i64 12,.int .u32 (succ32 g:Nat),.slice pa pm pc] W fun e w' => e=.returned (.int .i64 Z.1)∧Touch (fun k=>k=rd∨k=rl) W w'∧IsRef w' B rd rl rc Z.2):=Lib.hid (fun W pa pm pc hS hO=>by
   rw [hZ]
   have hlt:=h.disk.lt
   exact rput19_any B rd rl rc R ((12:Nat):Int) (succ32 g) pa pm pc (encP p l) k W hS.st.disk hO.isB (fun b off e hne=>by subst e;have h1:w.heap.size≤b:=owns_base2 hO.2;omega) hk hk2 (succ32_lt g))
 have HW32:Hid (IntKind.u32.wrap ((g:Int)+1)=((succ32 g:Nat):Int)):=Lib.hid (succ32_wrap g (by rw [hg];exact hg32))
 clear hk h hI hq hZ hg hg32
 -- the checks
 by_cases ht:turnsC c.s.length p l=false
 · have H1:Hid (turnD c.s.length R p l=(1,R)):=Lib.hid (by rw [HTD.out,if_pos ht])
   have hcase:3<p∨(p=2∧ordC c.s.length l=false)∨(p≤3∧p≠2∧0<n):=by
     rw [HNL.out]
     unfold turnsC at ht
     by_cases h2:p=2
     · rw [if_pos h2] at ht
       exact .inr (.inl ⟨h2,ht⟩)
     · rw [if_neg h2] at ht
       by_cases h3:p≤3
       · rw [decide_eq_true h3,Bool.true_and] at ht
         exact .inr (.inr ⟨h3,h2,by cases l with | nil=>cases ht | cons _ _=>simp⟩)
       · exact .inl (by omega)
   clear ht HPH HGET HPUT HTD
   rcases hcase with h3 | ⟨rfl,ho⟩ | ⟨h3,h2,hl⟩
   · have d1:decide (3<p)=true:=decide_eq_true h3
     have d1':decide ((3:Int)<(p:Int))=true:=decide_eq_true (by omega)
     clear h3
     go_enter Tryz.func15,Tryz.ntmps15
     go_wp2_with fail
     go_ret
     rw [H1.out]
     exact ⟨rfl,Touch.refl _ _,HS0.out.st.disk⟩
   · go_enter Tryz.func15,Tryz.ntmps15
     go_wp2_with fail
     refine (rorder_any a n cap c.s.length l w HS0.out.i (by omega)).mono ?_;rintro e w3 ⟨rfl,rfl⟩
     rw [ho]
     go_wp2_with fail
     go_ret
     rw [H1.out]
     exact ⟨rfl,Touch.refl _ _,HS0.out.st.disk⟩
   · have d1:decide (3<p)=false:=decide_eq_false (by omega)
     have d1':decide ((3:Int)<(p:Int))=false:=decide_eq_false (by omega)
     have d2:((p:Int) == 2)=false:=by rw [beq_eq_false_iff_ne];omega
     have d2':((p:Int) != 2)=true:=by rw [bne,d2];rfl
     have d3:decide ((0:Int)<(n:Int))=true:=decide_eq_true (by omega)
     have d3':decide (0<n)=true:=decide_eq_true hl
     clear h3 h2
     go_enter Tryz.func15,Tryz.ntmps15
     go_wp2_with fail
     go_ret
     rw [H1.out]
     exact ⟨rfl,Touch.refl _ _,HS0.out.st.disk⟩
 have ht:turnsC c.s.length p l=true:=by simpa using ht
 have H1:Hid (turnD c.s.length R p l=if nextC q p=false then (8,R) else Z):=Lib.hid (by rw [HTD.out,if_neg (by rw [ht];decide)])
 have hl8:l.length≤8:=Nat.le_trans (turnsC_len ht) hs
 have hcase:(p=2∧ordC c.s.length l=true)∨(p≤3∧p≠2∧n=0):=by
   rw [HNL.out]
   unfold turnsC at ht
   by_cases h2:p=2
   · rw [if_pos h2] at ht
     exact .inl ⟨h2,ht⟩
   · rw [if_neg h2,Bool.and_eq_true] at ht
     exact .inr ⟨of_decide_eq_true ht.1,h2,by have:=ht.2;cases l with | nil=>rfl | cons _ _=>cases this⟩
 clear ht HTD
 have hnext:(nextC q p=true∧(((q:Int) == 0)=true∧((p:Int) == 1)=true∨((q:Int) == 0)=true∧((p:Int) == 1)=false∧((p:Int) == 3)=true∨((q:Int) == 0)=false∧((q:Int) == 1)=true∧((p:Int) == 2)=true∨((q:Int) == 0)=false∧((q:Int) == 1)=true∧((p:Int) == 2)=false∧((p:Int) == 3)=true)) ∨
     (nextC q p=false∧(((q:Int) == 0)=true∧((q:Int) == 1)=false∧((p:Int) == 1)=false∧((p:Int) == 3)=false∨((q:Int) == 0)=false∧((q:Int) == 1)=true∧((p:Int) == 2)=false∧((p:Int) == 3)=false∨((q:Int) == 0)=false∧((q:Int) == 1)=false)):=by
   unfold nextC
   simp only [beq_iff_eq,beq_eq_false_iff_ne,Bool.or_eq_true,Bool.and_eq_true,Bool.or_eq_false_iff,Bool.and_eq_false_iff,ne_eq]
   omega
 have HNX:=Lib.hid hnext
 have hp2:p≤3:=by rcases hcase with ⟨h,_⟩ | ⟨h,_⟩ <;> omega
 have d1:decide (3<p)=false:=decide_eq_false (by omega)
 have d1':decide ((3:Int)<(p:Int))=false:=decide_eq_false (by omega)
 clear hnext
 have go2:True:=trivial
 rcases hcase with ⟨hp2',ho⟩ | ⟨h3,h2,hl⟩
 case' inl =>
   have d2:((p:Int) == 2)=true:=by rw [beq_iff_eq];omega
   have d2':((p:Int) != 2)=false:=by rw [bne,d2];rfl
   clear hp2'
   go_enter Tryz.func15,Tryz.ntmps15
   go_wp2_with fail
   refine (rorder_any a n cap c.s.length l w HS0.out.i (by omega)).mono ?_;rintro e w3 ⟨rfl,rfl⟩
   rw [ho]
   clear ho
   go_wp2_with fail
 case' inr =>
   have d2:((p:Int) == 2)=false:=by rw [beq_eq_false_iff_ne];omega
   have d2':((p:Int) != 2)=true:=by rw [bne,d2];rfl
   have d3:decide ((0:Int)<(n:Int))=false:=decide_eq_false (by omega)
   have d3':decide (0<n)=false:=decide_eq_false (by omega)
   clear h3 h2 hl
   go_enter Tryz.func15,Tryz.ntmps15
   go_wp2_with fail
 all_goals
   clear d1 d1' d2 d2' f2
   refine (HPH.out w HS0.out.st).mono ?_;rintro e w2 ⟨rfl,hb2⟩
   have HS2:=Lib.hid (HS0.out.below hb2)
   have f0':w2.cell? ⟨ts,0,none⟩=some (.pointer (some ⟨rd,0,none⟩)):=(HS2.out.st.f).1
   clear hb2 HPH f0 HS0
   rcases HNX.out with ⟨hn,hc⟩ | ⟨hn,hc⟩
   · have H2:Hid (turnD c.s.length R p l=Z):=Lib.hid (by rw [H1.out,if_neg (by rw [hn];decide)])
     clear hn H1
     rcases hc with ⟨q0,p1⟩ | ⟨q0,p1,p3⟩ | ⟨q0,q1,p2⟩ | ⟨q0,q1,p2,p3⟩
     all_goals
       go_wp2_with fail
       refine (HGET.out w2 HS2.out.st).mono ?_;rintro e w3 ⟨ba,bm,bc,rfl,hb3,-⟩
       have HS3:=Lib.hid (HS2.out.below hb3)
       have f3:w3.cell? ⟨ts,0,none⟩=some (.pointer (some ⟨rd,0,none⟩)):=(HS3.out.st.f).1
       have hw32:=HW32.out
       have hd0:=(Below.refl w3.heap.size w3).drew
       have hdA:∀ o,Below w3.heap.size w3 (w3.alloc o).drew:=fun o=>((Below.refl _ _).alloc (Nat.le_refl _) o).drew
       have hFZ:IsB (w3.alloc (.cells #[.int .u8 p] 5)).drew (some ⟨w3.heap.size,0,none⟩) 1 1 [UInt8.ofNat p]:=(frozen1P w3 p hp 5).below (Below.refl _ _).drew
       have HFZ:=Lib.hid hFZ
       have HEP:Hid ([UInt8.ofNat p] ++ encL l=encP p l):=Lib.hid rfl
       clear hb3 hFZ HS2 f0'
       go_wp2_with fail
       go_region_held3 (fun w' => w'.cell? ⟨ts,0,none⟩=some (.pointer (some ⟨rd,0,none⟩))) (first
           | with_reducible exact x5
           | with_reducible exact x4
           | with_reducible exact cell_later (hdA _) f3
           | with_reducible exact cell_later hd0 f3) (first
         | (go_at_call 74;(with_reducible refine (rputlist_any (some ⟨w3.heap.size,0,none⟩) 1 1 [UInt8.ofNat p] a n cap l _ HFZ.out (by simp) (HS3.out.i.below (hdA _)) (by omega)).mono ?_);rintro e w4 ⟨pa,pm,pc,rfl,hb4,ho4⟩
            rw [HEP.out] at ho4
            have hS4:=(HS3.out.below (hdA (.cells #[.int .u8 p] 5))).below hb4
            have hO4:OwB1 w.heap.size w4 pa pm pc (encP p l):=ho4.low (HS3.out.below (hdA (.cells #[.int .u8 p] 5))).bel.size
            have HO4:=Lib.hid hO4
            have HS4:=Lib.hid hS4
            have x4:=(hS4.st.f).1
            clear hb4 ho4 hS4 hO4)
         | (go_at_call 61;(with_reducible refine (HPUT.out w4 pa pm pc HS4.out HO4.out).mono ?_);rintro e w5 ⟨rfl,ht5,hr5⟩
            have x5:=ht5.cell x4 HS4.out.st.ne)
         | fail)
       have HT5:=Lib.hid ht5
       have HR5:=Lib.hid hr5
       clear ht5 hr5 x5 x4 f3
       go_wp2_with fail
       go_ret
       rw [H2.out]
       exact ⟨rfl,(Touch.of_below HS4.out.bel).trans HT5.out,HR5.out⟩
   · have H2:Hid (turnD c.s.length R p l=(8,R)):=Lib.hid (by rw [H1.out,if_pos hn])
     clear hn H1
     rcases hc with ⟨q0,q1,p1,p3⟩ | ⟨q0,q1,p2,p3⟩ | ⟨q0,q1⟩
     all_goals
       go_wp2_with fail
       go_ret
       rw [H2.out]
       exact ⟨rfl,Touch.of_below HS2.out.bel,HS2.out.st.disk⟩
end Go.Proofs.YtgbikngicidbkaaGreatDoor
