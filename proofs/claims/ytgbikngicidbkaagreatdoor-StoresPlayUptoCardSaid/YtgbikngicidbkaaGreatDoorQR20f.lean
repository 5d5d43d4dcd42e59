/- The document's stores (salesroomref20): get;conditions: those typed. -/
import Derived.Test.YtgbikngicidbkaaGreatDoorQR20dR20gR20hR20e
import Derived.Test.YtgbikngicidbkaaGreatDoorQTwinCTwinCfg
import Derived.Test.YtgbikngicidbkaaGreatDoorQGStTwStTRStOpnStGrtStCfgStGrtE
import Derived.BigRegion
namespace Go.Proofs.YtgbikngicidbkaaGreatDoor
open Go.RowKit
set_option linter.unusedVariables false
set_option linter.unusedSimpArgs false
set_option maxRecDepth 100000
def GotR (B:Nat) (w:World) (b:List UInt8) (y:StA) (t:Nat):Prop:=okC b=true→∀ cc,decC b=some cc→t=cc.t∧CfT B w y cc
theorem GotR.no {B:Nat} {w:World} {b:List UInt8} {y:StA} {t:Nat} (h:okC b=false):GotR B w b y t:=fun e=>by rw [h] at e;cases e
theorem okC_rows {b b2:List UInt8} {r:List Int} (h1:decL b=some (r,b2)) (h:dk1 r b2=none):okC b=false:=okC_none (by rw [decC_k,h1];exact h)
theorem blk5_cells {w:World} {n:Nat} {v0 v1 v2 v3 v4:Value} {T:TypeId} (h:w.heap[n]?=some (.cells #[v0,v1,v2,v3,v4] T (0,0))) :
   (w.cell? ⟨n,0,none⟩=some v0∧w.cell? ⟨n,1,none⟩=some v1∧w.cell? ⟨n,2,none⟩=some v2∧w.cell? ⟨n,3,none⟩=some v3∧w.cell? ⟨n,4,none⟩=some v4)∧(w.frozen? ⟨n,0,none⟩=false∧w.frozen? ⟨n,1,none⟩=false∧w.frozen? ⟨n,2,none⟩=false∧w.frozen? ⟨n,3,none⟩=false∧w.frozen? ⟨n,4,none⟩=false):=by
 refine ⟨⟨?_,?_,?_,?_,?_⟩,blk_free h,blk_free h,blk_free h,blk_free h,blk_free h⟩ <;> (rw [cell_of_block h];rfl)
theorem rmay_flat (P:Nat→Prop) (x:StA) (c:StC) (t:Nat) (w:World) (h:IsCf w P x c) (ht:c.t=t) :
   Calls Tryz.prog 58 #[.agg #[.slice x.ra x.rn x.rc,.slice x.sa x.sn x.sc,.slice x.aa x.an x.ac,.slice x.ua x.un x.uc,.int .u64 (t:Int)]] w fun e w' => e=.returned (.bool (mayB c))∧Below w.heap.size w w':=by subst ht;exact rmay_any P x c w h
theorem rputcfg_flat (P:Nat→Prop) (x:StA) (c:StC) (t:Nat) (w:World) (h:IsCf w P x c) (hmay:mayB c=true) (ht:c.t=t) :
   Calls Tryz.prog 62 #[.agg #[.slice x.ra x.rn x.rc,.slice x.sa x.sn x.sc,.slice x.aa x.an x.ac,.slice x.ua x.un x.uc,.int .u64 (t:Int)]] w fun e w' => ∃ a n c',e=.returned (.slice a n c')∧Below w.heap.size w w'∧OwB1 w.heap.size w' a n c' c.enc:=by subst ht;exact rputcfg_any P x c w h ((mayB_iff c).1 hmay)
set_option maxHeartbeats 4000000 in
theorem rgetcfg_any (a:Option Addr) (n c:Nat) (b:List UInt8) (w:World) (hb:IsB w a n c b) :
   Calls Tryz.prog 63 #[.slice a n c] w fun e w' => ∃ (y:StA) (t:Nat),e=.returned (.tuple #[.agg (y.cells t).toArray,.bool (okC b)])∧Below w.heap.size w w'∧GotR w.heap.size w' b y t:=by
 obtain rfl:=hb.1
 obtain ⟨hwa,r0,r1⟩:=alloc2_facts w (.cells #[.slice none 0 0,.slice none 0 0,.slice none 0 0,.slice none 0 0,.int .u64 0] 27 (0,0)) (.cells #[.slice none 0 0,.slice none 0 0,.slice none 0 0,.slice none 0 0,.int .u64 0] 27 (0,0))
 have hbA:=hb.below hwa
 have hm:c≤9223372036854775807:=by have:=hb.2.2.1;unfold maxLen at this;omega
 have hbc:=hb.2.1
 have HLT:=Lib.hid hb.ltSize
 go_enter Tryz.func63,Tryz.ntmps63
 go_wp2_with fail
 generalize hWA:(w.alloc (.cells #[.slice none 0 0,.slice none 0 0,.slice none 0 0,.slice none 0 0,.int .u64 0] 27)).alloc (.cells #[.slice none 0 0,.slice none 0 0,.slice none 0 0,.slice none 0 0,.int .u64 0] 27)=w0 at hwa r0 r1 hbA ⊢
 clear hWA
 have HWA:=Lib.hid hwa
 have HBA:=Lib.hid hbA
 have hsz0:w.heap.size+1<w0.heap.size:=lt_of_heap r1
 have R0:=Lib.hid r0
 have R1:=Lib.hid r1
 clear hwa hbA r0 r1
 cases hd1:decL b with
 | none =>
   have HOK:Hid (okC b=false):=Lib.hid (okC_none (by rw [decC_k,hd1]))
   refine (rgetlist_bad a b.length c b w0 HBA.out hd1).mono ?_;rintro e w1 ⟨rfl,rfl⟩
   clear hd1
   go_wp2_with (first
     | (refine wpList_load_mid rfl 27 (.tmp 5) rfl (w.heap.size+1) 0 rfl [.slice none 0 0,.slice none 0 0,.slice none 0 0,.slice none 0 0,.int .u64 0] _ (rangeAt_row R1.out) Tryz.underlying27 rfl info_cfg ?_)
     | (refine wpList_store_whole rfl 27 (.tmp 2) (.tmp 29) rfl w.heap.size [.slice none 0 0,.slice none 0 0,.slice none 0 0,.slice none 0 0,.int .u64 0] _ _ R0.out rfl rfl rfl info_cfg (cfg_one _ _ _ _ _ _ _ _ _ _ _ _ _) ?_;intro w4 ht4 hg4)
     | fail)
   refine bodyPost_ret (results_cell_tmp rfl _ _ w.heap.size 0 rfl [.slice none 0 0,.slice none 0 0,.slice none 0 0,.slice none 0 0,.int .u64 0] _ (rangeAt_row hg4) Tryz.underlying27 rfl info_cfg) rfl ?_
   exact ⟨⟨none,0,0,none,0,0,[],none,0,0,none,0,0⟩,0,by rw [HOK.out];rfl,HWA.out.trans (ht4.below HWA.out.size (fun k hk e=>by omega)),GotR.no HOK.out⟩
 | some y =>
   obtain ⟨r,b1⟩:=y
   obtain ⟨hr255,hlen⟩:=decL_len hd1
   obtain ⟨ab,ao,rfl⟩:=hb.nonnil (by omega)
   have habl:ab<w.heap.size:=HLT.out ab ao rfl (fun e=>by rw [e] at hlen;simp at hlen)
   refine (rgetlist_ok _ b.length c b r b1 w0 HBA.out hd1).mono ?_;rintro e w1 ⟨ga,gc,rfl,hb1,ho1,-,hrest⟩
   have HD1:=Lib.hid hd1
   obtain ⟨K,hK⟩:∃ K,K=1+4*r.length:=⟨_,rfl⟩
   rw [← hK] at hlen hrest ⊢
   have HREST:=Lib.hid hrest
   have HO1:=Lib.hid ho1
   have HB1:=Lib.hid (HWA.out.trans (hb1.mono HWA.out.size))
   have Q0:=Lib.hid (below_heap hb1 R0.out (lt_of_heap R0.out))
   have Q1:=Lib.hid (below_heap hb1 R1.out (lt_of_heap R1.out))
   have HBI1:=Lib.hid (HBA.out.below hb1)
   have hsz1:w0.heap.size≤w1.heap.size:=hb1.size
   clear hd1 hrest hK ho1 hb1 R0 R1 HBA HWA hb
   by_cases hKb:b.length=K
   · have HOK:Hid (okC b=false):=Lib.hid (okC_rows HD1.out (by
       rw [HREST.out,List.drop_eq_nil_of_le (by omega)];rfl))
     have d1:(((b.length:Nat):Int) == (K:Int))=true:=by rw [beq_iff_eq];omega
     clear hKb
     go_wp2_with (first
       | (refine wpList_load_mid rfl 27 (.tmp 5) rfl (w.heap.size+1) 0 rfl [.slice none 0 0,.slice none 0 0,.slice none 0 0,.slice none 0 0,.int .u64 0] _ (rangeAt_row Q1.out) Tryz.underlying27 rfl info_cfg ?_)
       | (refine wpList_store_whole rfl 27 (.tmp 2) (.tmp 29) rfl w.heap.size [.slice none 0 0,.slice none 0 0,.slice none 0 0,.slice none 0 0,.int .u64 0] _ _ Q0.out rfl rfl rfl info_cfg (cfg_one _ _ _ _ _ _ _ _ _ _ _ _ _) ?_;intro w4 ht4 hg4)
       | fail)
     refine bodyPost_ret (results_cell_tmp rfl _ _ w.heap.size 0 rfl [.slice none 0 0,.slice none 0 0,.slice none 0 0,.slice none 0 0,.int .u64 0] _ (rangeAt_row hg4) Tryz.underlying27 rfl info_cfg) rfl ?_
     exact ⟨⟨none,0,0,none,0,0,[],none,0,0,none,0,0⟩,0,by rw [HOK.out];rfl,HB1.out.trans (ht4.below HB1.out.size (fun k hk e=>by omega)),GotR.no HOK.out⟩
   have hKlt:K<b.length:=by omega
   have d1:(((b.length:Nat):Int) == (K:Int))=false:=by rw [beq_eq_false_iff_ne];omega
   obtain ⟨x,hx⟩:∃ x,x=b[K]:=⟨_,rfl⟩
   have hb2e:b.drop K=x :: b.drop (K+1):=by rw [hx];exact List.drop_eq_getElem_cons hKlt
   have HN1:Hid (decN 1 b1=some (x.toNat,b.drop (K+1))):=Lib.hid (by
     rw [HREST.out,hb2e]
     simp [decN,numOf])
   have hxlt:=x.toNat_lt
   obtain ⟨hs2,hg2⟩:=set1 w1 (w.heap.size+1) 0 _ _ (.slice ga r.length gc) Q1.out
   have hcK:(w1.setCell ⟨w.heap.size+1,0,none⟩ (.slice ga r.length gc)).cell? ⟨ab,ao+K,none⟩=some (.int .u8 x.toNat):=by
     refine hs2.cell (p:=⟨ab,ao+K,none⟩) ?_ (fun e=>by have e:ab=w.heap.size+1:=e;omega)
     rw [hx]
     rcases HBI1.out.2.2.2 with ⟨h0,_⟩ | ⟨b',off',h0,_,hc⟩
     · rw [h0] at hKlt;simp at hKlt
     · cases h0
       exact hc K hKlt
   obtain ⟨p,HP1,HP2⟩:=slice_from HBI1.out (K+1) ((K:Int)+1) (by omega) (by omega)
   have HBP:Hid (IsBp (w1.setCell ⟨w.heap.size+1,0,none⟩ (.slice ga r.length gc)) (fun k=>k<w.heap.size) (some p) (b.length - (K+1)) (c - (K+1)) (b.drop (K+1))):=Lib.hid (HP2 _ _ (IsBp.touch (P:=fun k=>k<w.heap.size) ⟨HBI1.out,HLT.out⟩ hs2 (fun k hk e=>by omega)))
   have q0:=(blk5_cells Q1.out).1.1
   have z0:=(blk5_cells Q1.out).2.1
   have HG2:=Lib.hid hg2
   have HS2:=Lib.hid hs2
   have HX:=Lib.hid hx
   clear hb2e HP2 hs2 hg2 hx
   go_wp2_with fail
   generalize w1.setCell ⟨w.heap.size+1,0,none⟩ (.slice ga r.length gc)=w2 at HBP HG2 HS2 hcK ⊢
   have hb2l:=HB1.out.size
   generalize b.drop (K+1)=b2 at HBP HN1
   generalize x.toNat=N at HN1 hxlt hcK ⊢
   have hsz2:w1.heap.size≤w2.heap.size:=HS2.out.size
   have hn5:w.heap.size+1<w2.heap.size:=by omega
   have HR2:Hid (NwI w2.heap.size w2 ga r→True):=Lib.hid (fun _=>trivial)
   have HOR:Hid (w2.ownsRow w0.heap.size 3 1 (.slice ga r.length gc) r.length (icells r)):=Lib.hid (owns_touch HO1.out.2 HS2.out (fun k hk e=>by have:=owns_base HO1.out.2 k hk;omega))
   have HB2:Hid (Below w.heap.size w w2):=Lib.hid (HB1.out.trans (HS2.out.below HB1.out.size (fun k hk e=>by omega)))
   have Q02:=Lib.hid (HS2.out.heap Q0.out (by omega))
   have H0:Hid (GcJ w2.heap.size (w.heap.size+1) N b2 (.slice ga r.length gc) w2 0 (.slice none 0 0) (.slice none 0 0) (.slice none 0 0) [] b2 w2∧IsBp w2 (fun k=>k<w.heap.size) (some p) (b.length - (K+1)) (c - (K+1)) b2):=Lib.hid ⟨⟨Touch.refl _ _,HG2.out,rfl,⟨none,0,[],by simp,by simpa using World.ownsRow_nil _ _ _ _,by simpa using BBo.nil _ _⟩,⟨none,0,0,rfl,fun h=>absurd h (by omega)⟩,⟨none,0,0,rfl,fun h=>absurd h (by omega)⟩⟩,HBP.out⟩
   have HBI:Hid (IsBp w2 (fun k=>k<w.heap.size) (some ⟨ab,ao,none⟩) b.length c b):=Lib.hid (IsBp.touch (P:=fun k=>k<w.heap.size) ⟨HBI1.out,HLT.out⟩ HS2.out (fun k hk e=>by omega))
   clear q0 z0 hcK d1 HP1 HBP HG2 HS2 HO1 HB1 Q0 Q1 HBI1 HREST hKb hKlt hlen HX HR2 hb2l
   obtain ⟨M,hM⟩:∃ M,M=N+2:=⟨_,rfl⟩
   have HM:=Lib.hid hM
   clear hM
   go_loopw [0,10] (fun s0 i wr => ∃ (j:Nat) (pa:Option Addr) (pn pc:Nat) (v1 v2 v3:Value) (ss:List (List UInt8)) (rest:List UInt8),j≤N+2∧s0=.slice pa pn pc∧i=.int .i64 j∧Hid (GcJ w2.heap.size (w.heap.size+1) N b2 (.slice ga r.length gc) w2 j v1 v2 v3 ss rest wr∧IsBp wr (fun k=>k<w.heap.size) pa pn pc rest)) (fun _ i _=>M - (intOf i).toNat)
   case atStart=>exact ⟨0,_,_,_,_,_,_,_,_,Nat.zero_le _,rfl,rfl,H0⟩
   case round =>
     clear H0
     obtain ⟨j,pa,pn,pc,v1,v2,v3,ss,rest,hj,rfl,rfl,HJ⟩:=hrel
     obtain ⟨J,hIB⟩:=HJ.out
     obtain ⟨sa,sc,vs,rfl,hso,hsv⟩:=J.sec
     obtain ⟨aa,an,ac,rfl,hao⟩:=J.adm
     obtain ⟨ua,un,uc,rfl,huo⟩:=J.aud
     have HJ1:=Lib.hid J
     have HIB:=Lib.hid hIB
     have hrb:w2.heap.size≤wr.heap.size:=J.bel.size
     have BLK:=Lib.hid J.blk
     have Q0r:=Lib.hid (J.bel.heap Q02.out (by omega))
     have HBr:Hid (Below w.heap.size w wr):=Lib.hid (HB2.out.trans (J.bel.below HB2.out.size (fun k hk e=>by omega)))
     have HSO:=Lib.hid hso
     have HSV:=Lib.hid hsv
     have HAO:=Lib.hid hao
     have HUO:=Lib.hid huo
     have hpn:=hIB.1.1
     have HPN:=Lib.hid hpn
     have hpc:=hIB.1.2.1
     have hpm:pc≤9223372036854775807:=by have:=hIB.1.2.2.1;unfold maxLen at this;omega
     clear J hIB hso hsv hao huo hpn HJ
     by_cases hlt:j<N+2
     · have d0:decide ((j:Int)<(N:Int)+2)=true:=decide_eq_true (by omega)
       cases hdb:decB rest with
       | none =>
         have HOK:Hid (okC b=false):=Lib.hid (okC_rows HD1.out (by
           have h1:decBs (j+1) b2=none:=by rw [decBs_succ,HJ1.out.dec];dsimp only;rw [hdb]
           unfold dk1
           rw [HN1.out]
           exact dk2_none (decBs_none (by omega) b2 h1)))
         go_wp2_with fail
         refine (rgetbytes_bad pa pn pc rest wr HIB.out.1 hdb).mono ?_;rintro e w3 ⟨rfl,rfl⟩
         clear hdb
         go_wp2_with (first
           | (refine wpList_load_mid rfl 27 (.tmp 5) rfl (w.heap.size+1) 0 rfl [.slice ga r.length gc,.slice sa (min j N) sc,.slice aa an ac,.slice ua un uc,.int .u64 0] _ (rangeAt_row BLK.out) Tryz.underlying27 rfl info_cfg ?_)
           | (refine wpList_store_whole rfl 27 (.tmp 2) (.tmp 55) rfl w.heap.size [.slice ga r.length gc,.slice sa (min j N) sc,.slice aa an ac,.slice ua un uc,.int .u64 0] _ _ Q0r.out rfl rfl rfl info_cfg (cfg_one _ _ _ _ _ _ _ _ _ _ _ _ _) ?_;intro w4 ht4 hg4)
           | fail)
         refine bodyPost_ret (results_cell_tmp rfl _ _ w.heap.size 0 rfl [.slice ga r.length gc,.slice sa (min j N) sc,.slice aa an ac,.slice ua un uc,.int .u64 0] _ (rangeAt_row hg4) Tryz.underlying27 rfl info_cfg) rfl ?_
         exact ⟨⟨ga,r.length,gc,sa,min j N,sc,[],aa,an,ac,ua,un,uc⟩,0,by rw [HOK.out];rfl,HBr.out.trans (ht4.below HBr.out.size (fun k hk e=>by omega)),GotR.no HOK.out⟩
       | some y =>
         obtain ⟨y,r2⟩:=y
         have hge:2≤rest.length:=by
           rcases Nat.lt_or_ge rest.length 2 with h | h
           · unfold decB at hdb;rw [if_pos h] at hdb;cases hdb
           · exact h
         obtain ⟨pb,po,rfl⟩:=HIB.out.1.nonnil (by omega)
         go_wp2_with fail
         refine (rgetbytes_ok _ pn pc rest y r2 wr HIB.out.1 hdb).mono ?_;rintro e w3 ⟨ya,yc,rfl,hb3,hy3,hyl,hyr⟩
         obtain ⟨K2,hK2⟩:∃ K2,K2=2+y.length:=⟨_,rfl⟩
         rw [← hK2] at hyl hyr ⊢
         have HY:=Lib.hid hy3.2
         have HB3:=Lib.hid hb3
         have HYR:=Lib.hid hyr
         have HDB:=Lib.hid hdb
         obtain ⟨p2,HP1,HP2⟩:=slice_from (HIB.out.1.below hb3) K2 (K2:Int) rfl hyl
         have HP3:=Lib.hid HP2
         have BLK3:=Lib.hid (below_heap hb3 BLK.out (lt_of_heap BLK.out))
         have HSO3:=Lib.hid (owns_below HSO.out hb3)
         have hszr3:=hb3.size
         clear hb3 hy3 hyr hdb HP2 hK2 hge
         by_cases hjN:j<N
         · have d5:decide ((j:Int)<(N:Int))=true:=decide_eq_true (by omega)
           have hmin:min j N=j:=Nat.min_eq_left (by omega)
           rw [hmin] at HSO HSO3 BLK BLK3 HJ1
           have hjb:j≤256:=by omega
           have q1:w3.cell? ⟨w.heap.size+1,1,none⟩=some (.slice sa j sc):=(blk5_cells BLK3.out).1.2.1
           have q2:∀ o,(w3.alloc o).cell? ⟨w.heap.size+1,1,none⟩=some (.slice sa j sc):=fun o=>cell_alloc q1 o
           clear hmin
           go_wp2_with (first
             | (at_builtin;refine wpList_append_any rowBs rfl _ _ rfl w2.heap.size _ j vs rfl (HSO3.out.alloc _) (some ⟨w3.heap.size,0,none⟩) 1 1 [.slice ya y.length yc] rfl rfl (At.one _ _ _) (one_cell _ rfl) (by unfold maxLen;omega) (by omega) (by simp;omega) ?_;intro b8 c8 w8 hown8 hg8 hat8
                have hg28:w8.heap[w.heap.size+1]?=some (.cells #[.slice ga r.length gc,.slice sa j sc,.slice aa an ac,.slice ua un uc,.int .u64 0] 27 (0,0)):=(hg8.block (w.heap.size+1) (by simp;have:=lt_of_heap BLK3.out;omega) (fun e=>by have:=owns_base HSO3.out (w.heap.size+1) e.symm;omega)).trans ((Below.heap_alloc _ _ _ (lt_of_heap BLK3.out)).trans BLK3.out)
                have q3:w8.cell? ⟨w.heap.size+1,1,none⟩=some (.slice sa j sc):=by rw [cell_of_block hg28];rfl
                have q4:w8.frozen? ⟨w.heap.size+1,1,none⟩=false:=blk_free hg28)
             | fail)
           have HST:=Lib.hid (HJ1.out.step_sec hn5 (Nat.le_refl _) hjN HSO.out HSV.out HB3.out hrb HY.out HDB.out hg8 hown8)
           have HTX:Hid (Touch (fun k=>w.heap.size<k) wr (w8.setCell ⟨w.heap.size+1,1,none⟩ (.slice b8 (j+1) c8))):=Lib.hid (Touch.setCell (((Touch.of_below (S:=fun k=>w.heap.size<k) HB3.out).alloc _).grown hg8 (fun k hk=>.inl (by have:=owns_base HSO3.out k hk;omega))) ⟨w.heap.size+1,1,none⟩ _ (.inl (by show w.heap.size<w.heap.size+1;omega)))
           have HIX:Hid (IsBp (w8.setCell ⟨w.heap.size+1,1,none⟩ (.slice b8 (j+1) c8)) (fun k=>k<w.heap.size) (some p2) (pn - K2) (pc - K2) r2):=Lib.hid (by rw [HYR.out];exact HP3.out _ _ (HIB.out.touch HTX.out (fun k hk e=>by omega)))
           clear hown8 hg8 hat8 hg28
           go_wp2_with fail
           go_roundw
           case rel=>exact ⟨j+1,some p2,_,_,_,_,_,ss ++ [y],r2,by omega,rfl,by go_num,Lib.hid ⟨HST.out,HIX.out⟩⟩
           case measure=>have:=HM.out;simp [intOf];omega
         · have d5:decide ((j:Int)<(N:Int))=false:=decide_eq_false (by omega)
           have d5':decide (j<N)=false:=decide_eq_false hjN
           by_cases hjN2:j=N
           · have d6:((j:Int) == (N:Int))=true:=by rw [beq_iff_eq];omega
             have HST:Hid (GcJ w2.heap.size (w.heap.size+1) N b2 (.slice ga r.length gc) w2 (j+1) (.slice sa (min j N) sc) (.slice ya y.length yc) (.slice ua un uc) (ss ++ [y]) r2 (w3.setCell ⟨w.heap.size+1,2,none⟩ (.slice ya y.length yc))):=Lib.hid (by
               subst hjN2
               exact HJ1.out.step_adm hn5 HB3.out hrb HY.out HDB.out)
             have q3:w3.cell? ⟨w.heap.size+1,2,none⟩=some (.slice aa an ac):=(blk5_cells BLK3.out).1.2.2.1
             have q4:w3.frozen? ⟨w.heap.size+1,2,none⟩=false:=(blk5_cells BLK3.out).2.2.2.1
             have HIX:Hid (IsBp (w3.setCell ⟨w.heap.size+1,2,none⟩ (.slice ya y.length yc)) (fun k=>k<w.heap.size) (some p2) (pn - K2) (pc - K2) r2):=Lib.hid (by rw [HYR.out];exact HP3.out _ _ (HIB.out.touch (S:=fun k=>w.heap.size<k) (Touch.setCell (Touch.of_below HB3.out) ⟨w.heap.size+1,2,none⟩ _ (.inl (by show w.heap.size<w.heap.size+1;omega))) (fun k hk e=>by omega)))
             clear hjN hjN2
             go_wp2_with fail
             go_roundw
             case rel=>exact ⟨j+1,some p2,_,_,_,_,_,ss ++ [y],r2,by omega,rfl,by go_num,Lib.hid ⟨HST.out,HIX.out⟩⟩
             case measure=>have:=HM.out;simp [intOf];omega
           · have d6:((j:Int) == (N:Int))=false:=by rw [beq_eq_false_iff_ne];omega
             have HST:Hid (GcJ w2.heap.size (w.heap.size+1) N b2 (.slice ga r.length gc) w2 (j+1) (.slice sa (min j N) sc) (.slice aa an ac) (.slice ya y.length yc) (ss ++ [y]) r2 (w3.setCell ⟨w.heap.size+1,3,none⟩ (.slice ya y.length yc))):=Lib.hid (by
               obtain rfl:j=N+1:=by omega
               exact HJ1.out.step_aud hn5 HB3.out hrb HY.out HDB.out)
             have q3:w3.cell? ⟨w.heap.size+1,3,none⟩=some (.slice ua un uc):=(blk5_cells BLK3.out).1.2.2.2.1
             have q4:w3.frozen? ⟨w.heap.size+1,3,none⟩=false:=(blk5_cells BLK3.out).2.2.2.2.1
             have HIX:Hid (IsBp (w3.setCell ⟨w.heap.size+1,3,none⟩ (.slice ya y.length yc)) (fun k=>k<w.heap.size) (some p2) (pn - K2) (pc - K2) r2):=Lib.hid (by rw [HYR.out];exact HP3.out _ _ (HIB.out.touch (S:=fun k=>w.heap.size<k) (Touch.setCell (Touch.of_below HB3.out) ⟨w.heap.size+1,3,none⟩ _ (.inl (by show w.heap.size<w.heap.size+1;omega))) (fun k hk e=>by omega)))
             clear hjN hjN2
             go_wp2_with fail
             go_roundw
             case rel=>exact ⟨j+1,some p2,_,_,_,_,_,ss ++ [y],r2,by omega,rfl,by go_num,Lib.hid ⟨HST.out,HIX.out⟩⟩
             case measure=>have:=HM.out;simp [intOf];omega
     · have hjM:j=N+2:=by omega
       have d0:decide ((j:Int)<(N:Int)+2)=false:=decide_eq_false (by omega)
       have HDEC:Hid (decBs (N+2) b2=some (ss,rest)):=Lib.hid (by rw [← hjM];exact HJ1.out.dec)
       have hmin:min j N=N:=by omega
       rw [hmin] at HSO BLK
       obtain ⟨-,hq4⟩:=blk5_cells BLK.out
       obtain ⟨⟨q0,q1,q2,q3,q4⟩,z0,z1,z2,z3,z4⟩:=blk5_cells BLK.out
       cases hd8:decN 8 rest with
       | none =>
         have h8:rest.length<8:=by
           rcases Nat.lt_or_ge rest.length 8 with h | h
           · exact h
           · rw [decN_some h] at hd8;cases hd8
         have HOK:Hid (okC b=false):=Lib.hid (okC_rows HD1.out (by
           unfold dk1
           rw [HN1.out]
           dsimp only
           rw [(dk2_some HDEC.out).1]
           unfold dk5
           rw [hd8]))
         clear hq4 q0 q1 q2 q3 z0 z1 z2 z3 hmin hjM hlt
         go_wp2_with fail
         refine (rget_short pa pn pc 8 _ rest wr rfl HIB.out.1 (by decide) (by decide) h8).mono ?_;rintro e w3 ⟨rfl,rfl⟩
         obtain ⟨hs4,hg4⟩:=set1 wr (w.heap.size+1) 4 _ _ (.int .u64 0) BLK.out
         have hB4:=HBr.out.trans (hs4.below HBr.out.size (fun k hk e=>by omega))
         have hq0:=hs4.heap Q0r.out (by omega)
         have HS4:=Lib.hid hs4
         have HG4:=Lib.hid hg4
         have HB4:=Lib.hid hB4
         have HQ0:=Lib.hid hq0
         clear hs4 hg4 hB4 hq0 h8 hd8
         go_wp2_with fail
         generalize wr.setCell ⟨w.heap.size+1,4,none⟩ (.int .u64 0)=w4 at HS4 HG4 HB4 HQ0 ⊢
         obtain ⟨⟨k0,k1,k2,k3,k4⟩,-⟩:=blk5_cells (show w4.heap[w.heap.size+1]?=some (.cells #[.slice ga r.length gc,.slice sa N sc,.slice aa an ac,.slice ua un uc,.int .u64 0] 27 (0,0)) from HG4.out)
         obtain ⟨⟨y0,y1,y2,y3,y4⟩,z0,z1,z2,z3,z4'⟩:=blk5_cells HQ0.out
         clear q4 z4
         have kd0:w4.drew.cell? ⟨w.heap.size+1,0,none⟩=some (.slice ga r.length gc):=k0
         have kd1:w4.drew.cell? ⟨w.heap.size+1,1,none⟩=some (.slice sa N sc):=k1
         have kd2:w4.drew.cell? ⟨w.heap.size+1,2,none⟩=some (.slice aa an ac):=k2
         have kd3:w4.drew.cell? ⟨w.heap.size+1,3,none⟩=some (.slice ua un uc):=k3
         have kd4:w4.drew.cell? ⟨w.heap.size+1,4,none⟩=some (.int .u64 0):=k4
         go_region
         all_goals (
           obtain ⟨ht5,hg5⟩:=set5 w4 w.heap.size _ _ (.slice ga r.length gc) (.slice sa N sc) (.slice aa an ac) (.slice ua un uc) (.int .u64 0) HQ0.out rfl
           have hB5:=ht5.drew
           go_wp2_with fail
           refine bodyPost_ret (results_cell_tmp rfl _ _ w.heap.size 0 rfl [.slice ga r.length gc,.slice sa N sc,.slice aa an ac,.slice ua un uc,.int .u64 0] _ (rangeAt_row (by exact hg5)) Tryz.underlying27 rfl info_cfg) rfl ?_
           exact ⟨⟨ga,r.length,gc,sa,N,sc,[],aa,an,ac,ua,un,uc⟩,0,by rw [HOK.out];rfl,HB4.out.trans (hB5.below HB4.out.size (fun k hk e=>by omega)),GotR.no HOK.out⟩)
       | some y8 =>
         obtain ⟨t,b6⟩:=y8
         have h8:8≤rest.length:=by
           rcases Nat.lt_or_ge rest.length 8 with h | h
           · rw [decN_none h] at hd8;cases hd8
           · exact h
         obtain ⟨E1,E2,E3,E4⟩:=getC_rows HD1.out HN1.out HDEC.out hd8
         have ht8:t=numOf (rest.take 8):=by
           rw [decN_some h8] at hd8
           exact (Prod.mk.inj (Option.some.inj hd8)).1.symm
         have hcf0:=GcJ.cf (B0:=w0.heap.size) (t:=t) (by omega) (by omega) (by have h:=HJ1.out;rw [hmin,hjM] at h;exact h) HOR.out HSO.out HSV.out E3
         have HCF0:=Lib.hid hcf0
         have HE1:=Lib.hid E1
         have HE2:=Lib.hid E2
         have HT8:=Lib.hid ht8
         have HBB:Hid (IsBp wr (fun k=>k<w.heap.size) (some ⟨ab,ao,none⟩) b.length c b):=Lib.hid (HBI.out.touch HJ1.out.bel (fun k hk e=>by omega))
         clear hcf0 E1 E2 E3 E4 ht8 hq4 q0 q1 q2 q3 z0 z1 z2 z3 hmin hjM hlt hd8
         go_wp2_with fail
         refine (rget_any pa pn pc 8 _ rest wr rfl HIB.out.1 (by decide) (by decide) h8).mono ?_;rintro e w3 ⟨rfl,rfl⟩
         rw [← HT8.out]
         obtain ⟨hs4,hg4⟩:=set1 wr (w.heap.size+1) 4 _ _ (.int .u64 t) BLK.out
         have hB4:=HBr.out.trans (hs4.below HBr.out.size (fun k hk e=>by omega))
         have hq0:=hs4.heap Q0r.out (by omega)
         have HS4:=Lib.hid hs4
         have HG4:=Lib.hid hg4
         have HB4:=Lib.hid hB4
         have HQ0:=Lib.hid hq0
         have HCF4:=Lib.hid (HCF0.out.touch hs4 (fun k hk _ e=>by omega))
         have HBB4:=Lib.hid (HBB.out.touch hs4 (fun k hk e=>by omega))
         clear hs4 hg4 hB4 hq0 h8 HCF0 HBB
         go_wp2_with fail
         generalize wr.setCell ⟨w.heap.size+1,4,none⟩ (.int .u64 t)=w4 at HS4 HG4 HB4 HQ0 HCF4 HBB4 ⊢
         obtain ⟨⟨k0,k1,k2,k3,k4⟩,-⟩:=blk5_cells (show w4.heap[w.heap.size+1]?=some (.cells #[.slice ga r.length gc,.slice sa N sc,.slice aa an ac,.slice ua un uc,.int .u64 t] 27 (0,0)) from HG4.out)
         obtain ⟨⟨y0,y1,y2,y3,y4⟩,z0,z1,z2,z3,z4'⟩:=blk5_cells HQ0.out
         clear q4 z4
         have kd0:w4.drew.cell? ⟨w.heap.size+1,0,none⟩=some (.slice ga r.length gc):=k0
         have kd1:w4.drew.cell? ⟨w.heap.size+1,1,none⟩=some (.slice sa N sc):=k1
         have kd2:w4.drew.cell? ⟨w.heap.size+1,2,none⟩=some (.slice aa an ac):=k2
         have kd3:w4.drew.cell? ⟨w.heap.size+1,3,none⟩=some (.slice ua un uc):=k3
         have kd4:w4.drew.cell? ⟨w.heap.size+1,4,none⟩=some (.int .u64 t):=k4
         have hd0:=(Below.refl w4.heap.size w4).drew
         clear HIB HN1 HM HJ1 HB2 HSO HSV HAO HUO HPN HDEC HD1 HOR Q02 BLK Q0r HBr HLT HS4
         cases hmay:mayB (ofRows r N ss t) with
         | false =>
           have HOK:Hid (okC b=false):=Lib.hid (by
             by_cases h6:b6=[]
             · rw [if_pos h6] at HE2
               rw [okC_some HE2.out,hmay]
             · rw [if_neg h6] at HE2
               exact okC_none HE2.out)
           have HMAY:=Lib.hid hmay
           clear hmay
           refine wp_region_held_drew (S:=(fun w':World=>w'.cell? ⟨w.heap.size+1,0,none⟩=some (.slice ga r.length gc)∧w'.cell? ⟨w.heap.size+1,1,none⟩=some (.slice sa N sc)∧w'.cell? ⟨w.heap.size+1,2,none⟩=some (.slice aa an ac)∧w'.cell? ⟨w.heap.size+1,3,none⟩=some (.slice ua un uc)∧w'.cell? ⟨w.heap.size+1,4,none⟩=some (.int .u64 t))) (by kernel_rfl) ⟨kd0,kd1,kd2,kd3,kd4⟩ (fun hS0 => ?_)
           refine wpAnyH_take (i:=0) (v:=.agg #[.slice ga r.length gc,.slice sa N sc,.slice aa an ac,.slice ua un uc,.int .u64 t]) rfl (by kernel_rfl) (by kernel_rfl) (by kernel_rfl) (fun _ _ _ h=>h) (Or.inl ⟨by rfl,fun w' hSw => ?_⟩) hS0 ?_
           · obtain ⟨g0,g1,g2,g3,g4⟩:=hSw
             go_simp
           try simp only [Act.put,List.setIfInBounds_toArray,List.set_cons_zero,List.set_cons_succ]
           refine wpAnyH_take (i:=1) (v:=.int .i64 0) rfl (by kernel_rfl) (by kernel_rfl) (by kernel_rfl) (fun _ _ _ h=>h) (Or.inl ⟨by rfl,fun w' hSw => ?_⟩) hS0 ?_
           · obtain ⟨g0,g1,g2,g3,g4⟩:=hSw
             go_simp
           try simp only [Act.put,List.setIfInBounds_toArray,List.set_cons_zero,List.set_cons_succ]
           refine wpAnyH_take (i:=2) (v:=.bool true) rfl (by kernel_rfl) (by kernel_rfl) (by kernel_rfl) (fun _ _ _ h=>h) (Or.inl ⟨by rfl,fun w' hSw => ?_⟩) hS0 ?_
           · obtain ⟨g0,g1,g2,g3,g4⟩:=hSw
             go_simp
           try simp only [Act.put,List.setIfInBounds_toArray,List.set_cons_zero,List.set_cons_succ]
           refine wpAnyH_take (i:=3) (v:=.bool true) rfl (by kernel_rfl) (by kernel_rfl) (by kernel_rfl) (fun _ _ _ h=>h) (Or.inl ⟨by rfl,fun w' hSw => ?_⟩) hS0 ?_
           · obtain ⟨g0,g1,g2,g3,g4⟩:=hSw
             go_simp
           try simp only [Act.put,List.setIfInBounds_toArray,List.set_cons_zero,List.set_cons_succ]
           refine wpAnyH_take (i:=4) (v:=.agg #[.slice ga r.length gc,.slice sa N sc,.slice aa an ac,.slice ua un uc,.int .u64 t]) rfl (by kernel_rfl) (by kernel_rfl) (by kernel_rfl) (fun _ _ _ h=>h) (Or.inl ⟨by rfl,fun w' hSw => ?_⟩) hS0 ?_
           · obtain ⟨g0,g1,g2,g3,g4⟩:=hSw
             go_simp
           try simp only [Act.put,List.setIfInBounds_toArray,List.set_cons_zero,List.set_cons_succ]
           refine wpAnyH_ready (rs:=[5]) (by kernel_rfl) (by simp) ?_
           refine AllReadyH.cons rfl (fun K hK => ?_) AllReadyH.nil
           go_simp
           refine (rmay_flat _ ⟨ga,r.length,gc,sa,N,sc,vs,aa,an,ac,ua,un,uc⟩ (ofRows r N ss t) t w4.drew (HCF4.out.below hd0) rfl).mono ?_;rintro e w5 ⟨rfl,hb5⟩
           rw [HMAY.out]
           have hB5:Below w4.heap.size w4 w5:=hd0.trans (hb5.mono hd0.size)
           obtain ⟨⟨x0,x1,x2,x3,x4⟩,-⟩:=blk5_cells (show w5.heap[w.heap.size+1]?=some (.cells #[.slice ga r.length gc,.slice sa N sc,.slice aa an ac,.slice ua un uc,.int .u64 t] 27 (0,0)) from below_heap hB5 HG4.out (lt_of_heap HG4.out))
           have hn5:=below_heap hB5 HQ0.out (lt_of_heap HQ0.out)
           obtain ⟨⟨s0,s1,s2,s3,s4⟩,f0,f1,f2,f3,f4⟩:=blk5_cells hn5
           obtain ⟨ht9,hg9⟩:=set5 w5 w.heap.size _ _ (.slice ga r.length gc) (.slice sa N sc) (.slice aa an ac) (.slice ua un uc) (.int .u64 t) hn5 rfl
           have hk9:=And.intro (ht9.cell x0 (fun e=>by have e:w.heap.size+1=w.heap.size:=e;omega)) (And.intro (ht9.cell x1 (fun e=>by have e:w.heap.size+1=w.heap.size:=e;omega)) (And.intro (ht9.cell x2 (fun e=>by have e:w.heap.size+1=w.heap.size:=e;omega)) (And.intro (ht9.cell x3 (fun e=>by have e:w.heap.size+1=w.heap.size:=e;omega)) (ht9.cell x4 (fun e=>by have e:w.heap.size+1=w.heap.size:=e;omega)))))
           have HT9:=Lib.hid ht9
           have HG9:=Lib.hid hg9
           have HB5:=Lib.hid hB5
           clear hb5 hB5 hn5 ht9 hg9 kd0 kd1 kd2 kd3 kd4 k0 k1 k2 k3 k4 y0 y1 y2 y3 y4 z0 z1 z2 z3 z4'
           refine hK.out _ _ ⟨x0,x1,x2,x3,x4⟩ (fun hS1 => ?_)
           clear hK K
           try simp only [Act.put,List.setIfInBounds_toArray,List.set_cons_zero,List.set_cons_succ]
           refine wpAnyH_take (i:=6) (v:=.bool false) rfl (by kernel_rfl) (by kernel_rfl) (by kernel_rfl) (fun _ _ _ h=>h) (Or.inl ⟨by rfl,fun w' hSw => ?_⟩) hS1 ?_
           · obtain ⟨g0,g1,g2,g3,g4⟩:=hSw
             go_simp
           try simp only [Act.put,List.setIfInBounds_toArray,List.set_cons_zero,List.set_cons_succ]
           refine wpAnyH_take (i:=7) (v:=.bool false) rfl (by kernel_rfl) (by kernel_rfl) (by kernel_rfl) (fun _ _ _ h=>h) (Or.inl ⟨by rfl,fun w' hSw => ?_⟩) hS1 ?_
           · obtain ⟨g0,g1,g2,g3,g4⟩:=hSw
             go_simp
           try simp only [Act.put,List.setIfInBounds_toArray,List.set_cons_zero,List.set_cons_succ]
           refine wpAnyH_take (i:=8) (v:=undef) rfl (by kernel_rfl) (by kernel_rfl) (by kernel_rfl) (fun _ _ _ h=>h) (Or.inr ⟨by kernel_rfl,rfl⟩) hS1 ?_
           try simp only [Act.put,List.setIfInBounds_toArray,List.set_cons_zero,List.set_cons_succ]
           refine wpAnyH_take (i:=9) (v:=undef) rfl (by kernel_rfl) (by kernel_rfl) (by kernel_rfl) (fun _ _ _ h=>h) (Or.inr ⟨by kernel_rfl,rfl⟩) hS1 ?_
           try simp only [Act.put,List.setIfInBounds_toArray,List.set_cons_zero,List.set_cons_succ]
           refine wpAnyH_take (i:=10) (v:=undef) rfl (by kernel_rfl) (by kernel_rfl) (by kernel_rfl) (fun _ _ _ h=>h) (Or.inr ⟨by kernel_rfl,rfl⟩) hS1 ?_
           try simp only [Act.put,List.setIfInBounds_toArray,List.set_cons_zero,List.set_cons_succ]
           refine wpAnyH_take (i:=11) (v:=undef) rfl (by kernel_rfl) (by kernel_rfl) (by kernel_rfl) (fun _ _ _ h=>h) (Or.inr ⟨by kernel_rfl,rfl⟩) hS1 ?_
           try simp only [Act.put,List.setIfInBounds_toArray,List.set_cons_zero,List.set_cons_succ]
           refine wpAnyH_take (i:=12) (v:=undef) rfl (by kernel_rfl) (by kernel_rfl) (by kernel_rfl) (fun _ _ _ h=>h) (Or.inr ⟨by kernel_rfl,rfl⟩) hS1 ?_
           try simp only [Act.put,List.setIfInBounds_toArray,List.set_cons_zero,List.set_cons_succ]
           refine wpAnyH_take (i:=13) (v:=undef) rfl (by kernel_rfl) (by kernel_rfl) (by kernel_rfl) (fun _ _ _ h=>h) (Or.inr ⟨by kernel_rfl,rfl⟩) hS1 ?_
           try simp only [Act.put,List.setIfInBounds_toArray,List.set_cons_zero,List.set_cons_succ]
           refine wpAnyH_take (i:=14) (v:=.bool false) rfl (by kernel_rfl) (by kernel_rfl) (by kernel_rfl) (fun _ _ _ h=>h) (Or.inl ⟨by rfl,fun w' hSw => ?_⟩) hS1 ?_
           · obtain ⟨g0,g1,g2,g3,g4⟩:=hSw
             go_simp
           try simp only [Act.put,List.setIfInBounds_toArray,List.set_cons_zero,List.set_cons_succ]
           refine wpAnyH_ready (rs:=[15]) (by kernel_rfl) (by simp) ?_
           refine AllReadyH.cons rfl (fun K hK => ?_) AllReadyH.nil
           go_simp
           refine hK.out _ _ hk9 (fun hS2 => ?_)
           clear hK K
           try simp only [Act.put,List.setIfInBounds_toArray,List.set_cons_zero,List.set_cons_succ]
           refine wpAnyH_take (i:=16) (v:=.bool false) rfl (by kernel_rfl) (by kernel_rfl) (by kernel_rfl) (fun _ _ _ h=>h) (Or.inl ⟨by rfl,fun w' hSw => ?_⟩) hS2 ?_
           · obtain ⟨g0,g1,g2,g3,g4⟩:=hSw
             go_simp
           try simp only [Act.put,List.setIfInBounds_toArray,List.set_cons_zero,List.set_cons_succ]
           refine wpAnyH_done (by kernel_rfl) ?_ _
           simp only [List.getElem_toArray,List.getElem_cons_zero,List.getElem_cons_succ,Act.put,List.setIfInBounds_toArray,List.set_cons_zero,List.set_cons_succ]
           go_wp2_with fail
           refine bodyPost_ret (results_cell_tmp rfl _ _ w.heap.size 0 rfl [.slice ga r.length gc,.slice sa N sc,.slice aa an ac,.slice ua un uc,.int .u64 t] _ (rangeAt_row HG9.out) Tryz.underlying27 rfl info_cfg) rfl ?_
           have hB9:=HB4.out.trans ((HB5.out.mono HB4.out.size))
           exact ⟨⟨ga,r.length,gc,sa,N,sc,[],aa,an,ac,ua,un,uc⟩,t,by rw [HOK.out];rfl,hB9.trans (HT9.out.below hB9.size (fun k hk e=>by omega)),GotR.no HOK.out⟩
         | true =>
           have HMAY:=Lib.hid hmay
           clear hmay
           have kds:=isB_string (HBB4.out.1.below hd0) _ Tryz.underlying9
           refine wp_region_held_drew (S:=(fun w':World=>w'.cell? ⟨w.heap.size+1,0,none⟩=some (.slice ga r.length gc)∧w'.cell? ⟨w.heap.size+1,1,none⟩=some (.slice sa N sc)∧w'.cell? ⟨w.heap.size+1,2,none⟩=some (.slice aa an ac)∧w'.cell? ⟨w.heap.size+1,3,none⟩=some (.slice ua un uc)∧w'.cell? ⟨w.heap.size+1,4,none⟩=some (.int .u64 t)∧(convert 24 9 (.slice (some ⟨ab,ao,none⟩) b.length c)).run Tryz.prog w'=.ok (.string ⟨b.toArray⟩) w')) (by kernel_rfl) ⟨kd0,kd1,kd2,kd3,kd4,kds⟩ (fun hS0 => ?_)
           refine wpAnyH_take (i:=0) (v:=.agg #[.slice ga r.length gc,.slice sa N sc,.slice aa an ac,.slice ua un uc,.int .u64 t]) rfl (by kernel_rfl) (by kernel_rfl) (by kernel_rfl) (fun _ _ _ h=>h) (Or.inl ⟨by kernel_rfl,fun w' hSw => ?_⟩) hS0 ?_
           · obtain ⟨g0,g1,g2,g3,g4,g5⟩:=hSw
             go_simp
           try simp only [Act.put,List.setIfInBounds_toArray,List.set_cons_zero,List.set_cons_succ]
           refine wpAnyH_take (i:=1) (v:=.int .i64 0) rfl (by kernel_rfl) (by kernel_rfl) (by kernel_rfl) (fun _ _ _ h=>h) (Or.inl ⟨by kernel_rfl,fun w' hSw => ?_⟩) hS0 ?_
           · obtain ⟨g0,g1,g2,g3,g4,g5⟩:=hSw
             go_simp
           try simp only [Act.put,List.setIfInBounds_toArray,List.set_cons_zero,List.set_cons_succ]
           refine wpAnyH_take (i:=2) (v:=.bool true) rfl (by kernel_rfl) (by kernel_rfl) (by kernel_rfl) (fun _ _ _ h=>h) (Or.inl ⟨by kernel_rfl,fun w' hSw => ?_⟩) hS0 ?_
           · obtain ⟨g0,g1,g2,g3,g4,g5⟩:=hSw
             go_simp
           try simp only [Act.put,List.setIfInBounds_toArray,List.set_cons_zero,List.set_cons_succ]
           refine wpAnyH_take (i:=3) (v:=.bool true) rfl (by kernel_rfl) (by kernel_rfl) (by kernel_rfl) (fun _ _ _ h=>h) (Or.inl ⟨by kernel_rfl,fun w' hSw => ?_⟩) hS0 ?_
           · obtain ⟨g0,g1,g2,g3,g4,g5⟩:=hSw
             go_simp
           try simp only [Act.put,List.setIfInBounds_toArray,List.set_cons_zero,List.set_cons_succ]
           refine wpAnyH_take (i:=4) (v:=.agg #[.slice ga r.length gc,.slice sa N sc,.slice aa an ac,.slice ua un uc,.int .u64 t]) rfl (by kernel_rfl) (by kernel_rfl) (by kernel_rfl) (fun _ _ _ h=>h) (Or.inl ⟨by kernel_rfl,fun w' hSw => ?_⟩) hS0 ?_
           · obtain ⟨g0,g1,g2,g3,g4,g5⟩:=hSw
             go_simp
           try simp only [Act.put,List.setIfInBounds_toArray,List.set_cons_zero,List.set_cons_succ]
           refine wpAnyH_ready (rs:=[5]) (by kernel_rfl) (by simp) ?_
           refine AllReadyH.cons rfl (fun K hK => ?_) AllReadyH.nil
           go_simp
           refine (rmay_flat _ ⟨ga,r.length,gc,sa,N,sc,vs,aa,an,ac,ua,un,uc⟩ (ofRows r N ss t) t w4.drew (HCF4.out.below hd0) rfl).mono ?_;rintro e w5 ⟨rfl,hb5⟩
           rw [HMAY.out]
           have hB5:Below w4.heap.size w4 w5:=hd0.trans (hb5.mono hd0.size)
           obtain ⟨⟨x0,x1,x2,x3,x4⟩,-⟩:=blk5_cells (show w5.heap[w.heap.size+1]?=some (.cells #[.slice ga r.length gc,.slice sa N sc,.slice aa an ac,.slice ua un uc,.int .u64 t] 27 (0,0)) from below_heap hB5 HG4.out (lt_of_heap HG4.out))
           have xs:=isB_string (HBB4.out.1.below hB5) _ Tryz.underlying9
           have HB5:=Lib.hid hB5
           clear hb5 hB5 kd0 kd1 kd2 kd3 kd4 kds k0 k1 k2 k3 k4 y0 y1 y2 y3 y4 z0 z1 z2 z3 z4'
           refine hK.out _ _ ⟨x0,x1,x2,x3,x4,xs⟩ (fun hS1 => ?_)
           clear hK K x0 x1 x2 x3 x4 xs
           try simp only [Act.put,List.setIfInBounds_toArray,List.set_cons_zero,List.set_cons_succ]
           refine wpAnyH_take (i:=6) (v:=.bool true) rfl (by kernel_rfl) (by kernel_rfl) (by kernel_rfl) (fun _ _ _ h=>h) (Or.inl ⟨by kernel_rfl,fun w' hSw => ?_⟩) hS1 ?_
           · obtain ⟨g0,g1,g2,g3,g4,g5⟩:=hSw
             go_simp
           try simp only [Act.put,List.setIfInBounds_toArray,List.set_cons_zero,List.set_cons_succ]
           refine wpAnyH_take (i:=7) (v:=.bool true) rfl (by kernel_rfl) (by kernel_rfl) (by kernel_rfl) (fun _ _ _ h=>h) (Or.inl ⟨by kernel_rfl,fun w' hSw => ?_⟩) hS1 ?_
           · obtain ⟨g0,g1,g2,g3,g4,g5⟩:=hSw
             go_simp
           try simp only [Act.put,List.setIfInBounds_toArray,List.set_cons_zero,List.set_cons_succ]
           refine wpAnyH_take (i:=8) (v:=.agg #[.slice ga r.length gc,.slice sa N sc,.slice aa an ac,.slice ua un uc,.int .u64 t]) rfl (by kernel_rfl) (by kernel_rfl) (by kernel_rfl) (fun _ _ _ h=>h) (Or.inl ⟨by kernel_rfl,fun w' hSw => ?_⟩) hS1 ?_
           · obtain ⟨g0,g1,g2,g3,g4,g5⟩:=hSw
             go_simp
           try simp only [Act.put,List.setIfInBounds_toArray,List.set_cons_zero,List.set_cons_succ]
           refine wpAnyH_take (i:=11) (v:=.slice (some ⟨ab,ao,none⟩) b.length c) rfl (by kernel_rfl) (by kernel_rfl) (by kernel_rfl) (fun _ _ _ h=>h) (Or.inl ⟨by kernel_rfl,fun w' hSw => ?_⟩) hS1 ?_
           · obtain ⟨g0,g1,g2,g3,g4,g5⟩:=hSw
             go_simp
           try simp only [Act.put,List.setIfInBounds_toArray,List.set_cons_zero,List.set_cons_succ]
           refine wpAnyH_take (i:=12) (v:=.string ⟨b.toArray⟩) rfl (by kernel_rfl) (by kernel_rfl) (by kernel_rfl) (fun _ _ _ h=>h) (Or.inl ⟨by kernel_rfl,fun w' hSw => ?_⟩) hS1 ?_
           · obtain ⟨g0,g1,g2,g3,g4,g5⟩:=hSw
             go_simp
           try simp only [Act.put,List.setIfInBounds_toArray,List.set_cons_zero,List.set_cons_succ]
           refine wpAnyH_ready (rs:=[9]) (by kernel_rfl) (by simp) ?_
           refine AllReadyH.cons rfl (fun K hK => ?_) AllReadyH.nil
           go_simp
           refine (rputcfg_flat _ ⟨ga,r.length,gc,sa,N,sc,vs,aa,an,ac,ua,un,uc⟩ (ofRows r N ss t) t w5 (HCF4.out.below HB5.out) HMAY.out rfl).mono ?_;rintro e w6 ⟨pa6,pn6,pc6,rfl,hb6,ho6⟩
           have hB6:Below w4.heap.size w4 w6:=HB5.out.trans (hb6.mono HB5.out.size)
           obtain ⟨⟨x0,x1,x2,x3,x4⟩,-⟩:=blk5_cells (show w6.heap[w.heap.size+1]?=some (.cells #[.slice ga r.length gc,.slice sa N sc,.slice aa an ac,.slice ua un uc,.int .u64 t] 27 (0,0)) from below_heap hB6 HG4.out (lt_of_heap HG4.out))
           have hn6:=below_heap hB6 HQ0.out (lt_of_heap HQ0.out)
           obtain ⟨⟨s0,s1,s2,s3,s4⟩,f0,f1,f2,f3,f4⟩:=blk5_cells hn6
           have xs:=isB_string (HBB4.out.1.below hB6) _ Tryz.underlying9
           have xp:=isB_string ho6.isB _ Tryz.underlying9
           obtain ⟨ht9,hg9⟩:=set5 w6 w.heap.size _ _ (.slice ga r.length gc) (.slice sa N sc) (.slice aa an ac) (.slice ua un uc) (.int .u64 t) hn6 rfl
           have hk9:=And.intro (ht9.cell x0 (fun e=>by have e:w.heap.size+1=w.heap.size:=e;omega)) (And.intro (ht9.cell x1 (fun e=>by have e:w.heap.size+1=w.heap.size:=e;omega)) (And.intro (ht9.cell x2 (fun e=>by have e:w.heap.size+1=w.heap.size:=e;omega)) (And.intro (ht9.cell x3 (fun e=>by have e:w.heap.size+1=w.heap.size:=e;omega)) (And.intro (ht9.cell x4 (fun e=>by have e:w.heap.size+1=w.heap.size:=e;omega)) (isB_string ((HBB4.out.below hB6).touch ht9 (fun k hk e=>by omega)).1 _ Tryz.underlying9)))))
           have xp9:=isB_string (ho6.isB.touch ht9 (fun b' off e hne=>by subst e;have h1:w5.heap.size≤b':=owns_base2 ho6.2;have h2:=HB5.out.size;have h3:=lt_of_heap HQ0.out;intro e;have e:b'=w.heap.size:=e;omega)) _ Tryz.underlying9
           have HT9:=Lib.hid ht9
           have HG9:=Lib.hid hg9
           have HB6:=Lib.hid hB6
           clear hb6 hB6 hn6 ht9 hg9 ho6
           refine hK.out _ _ ⟨x0,x1,x2,x3,x4,xs⟩ (fun hS2 => ?_)
           clear hK K x0 x1 x2 x3 x4 xs
           try simp only [Act.put,List.setIfInBounds_toArray,List.set_cons_zero,List.set_cons_succ]
           have HEND:Hid (∃ (y:StA) (t':Nat),Ending.returned (.tuple #[.agg #[.slice ga r.length gc,.slice sa N sc,.slice aa an ac,.slice ua un uc,.int .u64 t],.bool ((ofRows r N ss t).enc == b)])=.returned (.tuple #[.agg (y.cells t').toArray,.bool (okC b)])∧Below w.heap.size w (((((w6.setCell ⟨w.heap.size,0,none⟩ (.slice ga r.length gc)).setCell ⟨w.heap.size,1,none⟩ (.slice sa N sc)).setCell ⟨w.heap.size,2,none⟩ (.slice aa an ac)).setCell ⟨w.heap.size,3,none⟩ (.slice ua un uc)).setCell ⟨w.heap.size,4,none⟩ (.int .u64 t))∧GotR w.heap.size (((((w6.setCell ⟨w.heap.size,0,none⟩ (.slice ga r.length gc)).setCell ⟨w.heap.size,1,none⟩ (.slice sa N sc)).setCell ⟨w.heap.size,2,none⟩ (.slice aa an ac)).setCell ⟨w.heap.size,3,none⟩ (.slice ua un uc)).setCell ⟨w.heap.size,4,none⟩ (.int .u64 t)) b y t'):=Lib.hid (by
             have hB9:=HB4.out.trans (HB6.out.mono HB4.out.size)
             have hcf9:=(HCF4.out.below HB6.out).touch HT9.out (fun k hk _ e=>by omega)
             have hq:((ofRows r N ss t).enc == b)=okC b:=by
               by_cases h6:b6=[]
               · rw [if_pos h6] at HE2
                 rw [okC_some HE2.out,HMAY.out]
                 have e:(ofRows r N ss t).enc=b:=by rw [HE1.out,h6,List.append_nil]
                 exact beq_iff_eq.2 e
               · rw [if_neg h6] at HE2
                 rw [okC_none HE2.out,beq_eq_false_iff_ne]
                 intro e
                 exact h6 (append_self.1 (e.trans HE1.out))
             rw [hq]
             refine ⟨⟨ga,r.length,gc,sa,N,sc,vs,aa,an,ac,ua,un,uc⟩,t,rfl,hB9.trans (HT9.out.below hB9.size (fun k hk e=>by omega)),fun hok cc hcc => ?_⟩
             by_cases h6:b6=[]
             · rw [if_pos h6] at HE2
               obtain rfl:=Option.some.inj (hcc.symm.trans HE2.out)
               exact ⟨rfl,hcf9.lower (by omega)⟩
             · rw [if_neg h6] at HE2
               rw [HE2.out] at hcc;cases hcc)
           generalize hbq:((ofRows r N ss t).enc == b)=bq at HEND
           clear HE1 HE2 HCF4 HBB4 HMAY HG4 HQ0 HB4 HB5 HB6 HT9
           refine wpAnyH_ready (rs:=[10,15]) (by kernel_rfl) (by simp) ?_
           refine AllReadyH.cons rfl (fun K hK => ?_) (AllReadyH.cons rfl (fun K hK => ?_) AllReadyH.nil)
           · go_simp
             refine hK.out _ _ hS2 (fun hS3 => ?_)
             clear hK K
             try simp only [Act.put,List.setIfInBounds_toArray,List.set_cons_zero,List.set_cons_succ]
             refine wpAnyH_take (i:=13) (v:=.bool bq) rfl (by kernel_rfl) (by kernel_rfl) (by kernel_rfl) (fun _ _ _ h=>h) (Or.inl ⟨by kernel_rfl,fun w' hSw => ?_⟩) hS3 ?_
             · obtain ⟨g0,g1,g2,g3,g4,g5⟩:=hSw
               go_simp
             try simp only [Act.put,List.setIfInBounds_toArray,List.set_cons_zero,List.set_cons_succ]
             refine wpAnyH_take (i:=14) (v:=.bool bq) rfl (by kernel_rfl) (by kernel_rfl) (by kernel_rfl) (fun _ _ _ h=>h) (Or.inl ⟨by kernel_rfl,fun w' hSw => ?_⟩) hS3 ?_
             · obtain ⟨g0,g1,g2,g3,g4,g5⟩:=hSw
               go_simp
             try simp only [Act.put,List.setIfInBounds_toArray,List.set_cons_zero,List.set_cons_succ]
             refine wpAnyH_ready (rs:=[15]) (by kernel_rfl) (by simp) ?_
             refine AllReadyH.cons rfl (fun K hK => ?_) AllReadyH.nil
             go_simp
             refine hK.out _ _ hk9 (fun hS4 => ?_)
             clear hK K
             try simp only [Act.put,List.setIfInBounds_toArray,List.set_cons_zero,List.set_cons_succ]
             refine wpAnyH_take (i:=16) (v:=.bool bq) rfl (by kernel_rfl) (by kernel_rfl) (by kernel_rfl) (fun _ _ _ h=>h) (Or.inl ⟨by kernel_rfl,fun w' hSw => ?_⟩) hS4 ?_
             · obtain ⟨g0,g1,g2,g3,g4,g5⟩:=hSw
               go_simp
             try simp only [Act.put,List.setIfInBounds_toArray,List.set_cons_zero,List.set_cons_succ]
             refine wpAnyH_done (by kernel_rfl) ?_ _
             simp only [List.getElem_toArray,List.getElem_cons_zero,List.getElem_cons_succ,Act.put,List.setIfInBounds_toArray,List.set_cons_zero,List.set_cons_succ]
             go_wp2_with fail
             refine bodyPost_ret (results_cell_tmp rfl _ _ w.heap.size 0 rfl [.slice ga r.length gc,.slice sa N sc,.slice aa an ac,.slice ua un uc,.int .u64 t] _ (rangeAt_row HG9.out) Tryz.underlying27 rfl info_cfg) rfl ?_
             exact HEND.out
           · go_simp
             refine hK.out _ _ hk9 (fun hS3 => ?_)
             clear hK K
             try simp only [Act.put,List.setIfInBounds_toArray,List.set_cons_zero,List.set_cons_succ]
             refine wpAnyH_ready (rs:=[10]) (by kernel_rfl) (by simp) ?_
             refine AllReadyH.cons rfl (fun K hK => ?_) AllReadyH.nil
             go_simp
             refine hK.out _ _ hS3 (fun hS4 => ?_)
             clear hK K
             try simp only [Act.put,List.setIfInBounds_toArray,List.set_cons_zero,List.set_cons_succ]
             refine wpAnyH_take (i:=13) (v:=.bool bq) rfl (by kernel_rfl) (by kernel_rfl) (by kernel_rfl) (fun _ _ _ h=>h) (Or.inl ⟨by kernel_rfl,fun w' hSw => ?_⟩) hS4 ?_
             · obtain ⟨g0,g1,g2,g3,g4,g5⟩:=hSw
               go_simp
             try simp only [Act.put,List.setIfInBounds_toArray,List.set_cons_zero,List.set_cons_succ]
             refine wpAnyH_take (i:=14) (v:=.bool bq) rfl (by kernel_rfl) (by kernel_rfl) (by kernel_rfl) (fun _ _ _ h=>h) (Or.inl ⟨by kernel_rfl,fun w' hSw => ?_⟩) hS4 ?_
             · obtain ⟨g0,g1,g2,g3,g4,g5⟩:=hSw
               go_simp
             try simp only [Act.put,List.setIfInBounds_toArray,List.set_cons_zero,List.set_cons_succ]
             refine wpAnyH_take (i:=16) (v:=.bool bq) rfl (by kernel_rfl) (by kernel_rfl) (by kernel_rfl) (fun _ _ _ h=>h) (Or.inl ⟨by kernel_rfl,fun w' hSw => ?_⟩) hS4 ?_
             · obtain ⟨g0,g1,g2,g3,g4,g5⟩:=hSw
               go_simp
             try simp only [Act.put,List.setIfInBounds_toArray,List.set_cons_zero,List.set_cons_succ]
             refine wpAnyH_done (by kernel_rfl) ?_ _
             simp only [List.getElem_toArray,List.getElem_cons_zero,List.getElem_cons_succ,Act.put,List.setIfInBounds_toArray,List.set_cons_zero,List.set_cons_succ]
             go_wp2_with fail
             refine bodyPost_ret (results_cell_tmp rfl _ _ w.heap.size 0 rfl [.slice ga r.length gc,.slice sa N sc,.slice aa an ac,.slice ua un uc,.int .u64 t] _ (rangeAt_row HG9.out) Tryz.underlying27 rfl info_cfg) rfl ?_
             exact HEND.out
end Go.Proofs.YtgbikngicidbkaaGreatDoor
